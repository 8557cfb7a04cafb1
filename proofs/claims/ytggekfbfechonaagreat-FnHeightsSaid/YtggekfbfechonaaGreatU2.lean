/-
  Joined texts: contracts and plain lemmas.
-/
import Derived.Test.YtggekfbfechonaaGreatU1
import Derived.Laws.OwnMore
import Derived.Deep.DeepCutAuto
import Derived.Deep.RegionWith
import Derived.BigQuiet
set_option linter.unusedSimpArgs false
set_option linter.unusedVariables false
set_option maxRecDepth 100000
set_option maxHeartbeats 8000000
namespace Go.Proofs.YtggekfbfechonaaGreat
section
open Go.RowKit
def ak (W:World) (base:Nat) (sl:Value) (z:Int):Prop:=aF W base sl (Wh.a_ z.natAbs)
theorem ak.below {w w':World} {base:Nat} {v:Value} {z:Int} (h:ak w base v z) (hb:Below w.heap.size w w'):ak w' base v z:=aF.below h hb
theorem ak.base {w:World} {base base':Nat} {v:Value} {z:Int} (h:ak w base v z) (hb:base'≤base):ak w base' v z:=aF.base h hb
namespace Wh
theorem mM {l:List Int} {k:Nat} (hk:k<l.length) (h0:l[k]?=some 0):trim (l.take (k+1))=trim (l.take k):=by
 rw [List.take_add_one,h0];exact gu _
theorem jr {l:List Int} {k:Nat} {x:Int} (hx:l[k]?=some x) (h0:x≠0):trim (l.take (k+1))=l.take (k+1):=by
 rw [List.take_add_one,hx];exact jq _ h0
theorem uJ {n:Nat}:decide (0<(a_ n).length)=decide ((n:Int)≠0):=by
 rw [decide_eq_decide]
 constructor
 ·intro h h0
  rw [fU.2 (by omega:n=0)] at h;exact absurd h (by decide)
 intro h
 cases hd:a_ n with
 | nil=>exact absurd (fU.1 hd) (by omega)
 | cons x l=>exact Nat.succ_pos _
end Wh
structure am (w:World) (b:Nat) (u v:Value):Prop where
 c0:w.cell? ⟨b,0,none⟩=some u
 c1:w.cell? ⟨b,1,none⟩=some v
 f0:w.frozen? ⟨b,0,none⟩=false
 f1:w.frozen? ⟨b,1,none⟩=false
 size:b<w.heap.size
theorem am.keep {w w':World} {b:Nat} {u v:Value} (h:am w b u v) (hb:Below w.heap.size w w'):am w' b u v:=
 have hg:=br hb none
 ⟨hg.cell h.c0 (by simp),hg.cell h.c1 (by simp),(Gr.frozen hg h.size (by simp)).trans h.f0,(Gr.frozen hg h.size (by simp)).trans h.f1,Gr.iE hg h.size⟩
theorem am.new (w:World) (u v:Value) (T:TypeId):am (w.alloc (.cells #[u,v] T)) w.heap.size u v:=
 ⟨by rw [World.cell?_alloc_at _ _ _ _ rfl];rfl,by rw [World.cell?_alloc_at _ _ _ _ rfl];rfl,by simp [go_sem],by simp [go_sem],by rw [wN];omega⟩
theorem am.alloc {w:World} {b:Nat} {u v:Value} (h:am w b u v) (o:Obj):am (w.alloc o) b u v:=h.keep ((wP _ _).alloc (wQ _) o)
theorem pk {w w2:World} {o:Obj} {sl:Value} {xs:List Int} (u:Value) (hoc:aF w2 (w.alloc o).heap.size sl xs) (hbc:Below (w.alloc o).heap.size (w.alloc o) w2) :
  aF ((w2.setCell ⟨w.heap.size,0,none⟩ u).setCell ⟨w.heap.size,1,none⟩ sl) w.heap.size sl xs∧Below w.heap.size w ((w2.setCell ⟨w.heap.size,0,none⟩ u).setCell ⟨w.heap.size,1,none⟩ sl):=by
 have hz:(w.alloc o).heap.size=w.heap.size+1:=wN _ _;refine ⟨aF.base (World.ownsRow.kept hoc (cF w2 w.heap.size u sl) ?_) (by omega),?_⟩
 ·cases hs:sl.ownBlock with
  | none=>exact Or.inl rfl
  | some g=>
  right
  intro e
  injection e with e
  have:=(aF.lt hoc g hs).1;omega
 exact ((((wP _ _).alloc (wQ _) o).trans (hbc.mono (by omega))).setCell (wQ _) _).setCell (wQ _) _
theorem aF.vO {w:World} {base cap k:Nat} {a:Option Addr} {xs:List Int} (h:aF w base (.slice a xs.length cap) xs) (hk:k≤xs.length):aF w base (.slice a k cap) (xs.take k):=by
 rcases h.forms with ⟨e,rfl⟩ | ⟨g,cap',e,-⟩
 ·obtain rfl:k=0:=by simpa using hk
  exact h
 injection e with e1 e2 e3
 subst e1;exact aF.cut rfl h hk rfl
theorem Wh.mJ {l:List Int} {k n:Nat} (hk:k≤l.length) (h:l.take k=Wh.a_ n):(n:Int)≠0 ↔ 0<k:=by
 have h1:=congrArg List.length h;rw [List.length_take,Nat.min_eq_left hk] at h1;have h2:=Wh.uJ (n:=n);rw [decide_eq_decide,←h1] at h2;exact h2.symm
theorem pu (neg:Bool) (ls:List Int) (v:Value) (w:World) (base:Nat) (hown:aF w base v ls) (h:Wh.bK ls) (hl:ls.length≤1000000) :
  Calls Tryz.prog 171 #[.bool neg,v] w fun e w'=>∃ sl,e=.returned (.agg #[.bool (decide (Wh.yJ neg (Wh.val ls)<0)),sl])∧ak w' w.heap.size sl (Wh.yJ neg (Wh.val ls))∧Below w.heap.size w w':=by
 obtain ⟨a,cap,rfl,hm,hv⟩:=hown.seen;have hv:=wM hv;have hgt:=wM (Wh.iV h);have hn:=Wh.cX h;have hs1:=wM (Wh.oR (neg:=neg) hn);have hs2:=wM (Wh.kf (neg:=neg) hn);have hls:=wM h;have hcp:=hown.cap;replace hown:=wM hown;clear hm hn h;have bx:=am.new w (.bool false) (.slice none 0 0) 125;go_enter Tryz.func171,Tryz.ntmps171
 go_wp2
 go_loopw [1] (fun vl wr=>∃ k:Nat,k≤ls.length∧vl=.slice a k cap∧Wh.trim (ls.take k)=Wh.trim ls∧wr=w.alloc (.cells #[.bool false,.slice none 0 0] 125)) (fun vl _=>match vl with | .slice _ n _=>n | _=>0)
 case atStart=>exact ⟨ls.length,wQ _,rfl,by rw [List.take_length],rfl⟩
 case round=>
 obtain ⟨k,hk,rfl,htr,rfl⟩:=hrel;have hown2:aF (w.alloc (.cells #[.bool false,.slice none 0 0] 125)) base (.slice a k cap) (ls.take k):=(aF.vO hown.out hk).alloc _
 have fin:ls.take k=Wh.a_ (Wh.val ls).toNat→Hid ((decide (Wh.yJ neg (Wh.val ls)<0)=(neg && decide (0<k)))∧∀ (W:World) (b:Nat) (vc:Value),aF W b vc (ls.take k)→ak W b vc (Wh.yJ neg (Wh.val ls))):=fun h=>wM (by
  have h2:=Wh.mJ hk h;have hn:=Wh.cX hls.out;refine ⟨?_,fun W b vc ho=>?_⟩
  ·rw [hs1.out]
   congr 1
   rw [decide_eq_decide,←h2];omega
  unfold ak;rw [hs2.out,←h]
  exact ho)
 have PC:=fun W v h=>lL (ls.take k) v W base h (by rw [List.length_take];omega)
 have PC:=wM PC;have hown2:=wM hown2;have htr:=wM htr
 cases k with
 | zero=>
  have f2:=fin (by rw [←hgt.out,←htr.out];rfl);clear fin htr hgt;cases neg
  all_goals
   go_wp2_with (go_at_call 194;(with_reducible refine (PC.out _ _ hown2.out).mono ?_);rintro e w2 ⟨vc,rfl,hoc,hbc⟩;obtain ⟨ac,wY,rfl,hmc,xR⟩:=hoc.view;have xW:=bx.keep hbc;have c0:=xW.c0;have c1:=xW.c1;have g0:=xW.f0;have g1:=xW.f1;clear xR hmc)
   have hr:=pk (.bool false) hoc hbc;exact bodyPost_ret (v:=.agg #[.bool false,.slice ac 0 wY]) (by simp [results,Tryz.results171,go_sem, *]) rfl (⟨_,by rw [f2.out.1] <;> rfl,f2.out.2 _ _ _ hr.1,hr.2⟩)
 | succ m=>
 obtain ⟨g,x,rfl,hg,hx,hcell⟩:=hv.out m (by omega)
 by_cases h0:x=0
 ·subst h0
  have hct:=wM ((Wh.mM (by omega) hx.out).symm.trans htr.out);clear fin htr;go_wp2
  go_roundw
  case rel=>exact ⟨m,by omega,rfl,hct.out,by first | rfl | trivial⟩
  case measure=>simp
 have f2:=fin (by rw [←hgt.out,←htr.out,Wh.jr hx.out h0]);generalize ls.take (m+1)=L at *;clear fin htr hgt;cases neg
 ·go_wp2_with (go_at_call 194;(with_reducible refine (PC.out _ _ hown2.out).mono ?_);rintro e w2 ⟨vc,rfl,hoc,hbc⟩;obtain ⟨ac,wY,rfl,hmc,xR⟩:=hoc.view;have xW:=bx.keep hbc;have c0:=xW.c0;have c1:=xW.c1;have g0:=xW.f0;have g1:=xW.f1;clear xR hmc)
  have hr:=pk (.bool false) hoc hbc;exact bodyPost_ret (v:=.agg #[.bool false,.slice ac L.length wY]) (by simp [results,Tryz.results171,go_sem, *]) rfl (⟨_,by rw [f2.out.1] <;> rfl,f2.out.2 _ _ _ hr.1,hr.2⟩)
 go_wp2_with (go_at_call 194;(with_reducible refine (PC.out _ _ hown2.out).mono ?_);rintro e w2 ⟨vc,rfl,hoc,hbc⟩;obtain ⟨ac,wY,rfl,hmc,xR⟩:=hoc.view;have xW:=bx.keep hbc;have c0:=xW.c0;have c1:=xW.c1;have g0:=xW.f0;have g1:=xW.f1;clear xR hmc)
 have hr:=pk (.bool true) hoc hbc;exact bodyPost_ret (v:=.agg #[.bool true,.slice ac L.length wY]) (by simp [results,Tryz.results171,go_sem, *]) rfl (⟨_,by rw [f2.out.1] <;> simp,f2.out.2 _ _ _ hr.1,hr.2⟩)
namespace Wh
theorem oV (z:Int):yJ (!decide (z<0)) z.natAbs=-z:=by
 unfold yJ
 by_cases h:z<0
 ·rw [decide_eq_true h];simp only [Bool.not_true,Bool.false_eq_true,if_false];omega
 rw [decide_eq_false h];simp only [Bool.not_false,if_true];omega
theorem kv {o:List Int} {m N:Int} (ho:bK o) (h:val o+10000 ^ o.length*m=N) (hm:0<m) (hN:N≤1000000000000000000):o.length≤4:=by
 have h1:=cX ho
 by_cases h5:5≤o.length
 ·have h2:=gl h5
  have h3:=Int.mul_le_mul_of_nonneg_left (show 1≤m by omega) (Int.le_of_lt (pow_pos o.length))
  have h4:(10000:Int) ^ 5=100000000000000000000:=by decide
  omega
 omega
theorem iX {o:List Int} {m N:Int} (h:val o+10000 ^ o.length*m=N) (hm:0≤m):val (o ++ [m % 10000])+10000 ^ (o ++ [m % 10000]).length*(m / 10000)=N:=by
 rw [mQ,List.length_append,List.length_singleton,Int.pow_succ];have:=Int.mul_ediv_add_emod m 10000;generalize m / 10000=q,m % 10000=r at *
 grind
end Wh
theorem ep (z:Int) (neg:Bool) (ls:List Int) (v:Value) (w:World) (base:Nat) (hown:aF w base v ls) (h:Wh.bK ls) (hl:ls.length≤1000000) (hz:Wh.yJ neg (Wh.val ls)=z) :
  Calls Tryz.prog 171 #[.bool neg,v] w fun e w'=>∃ sl,e=.returned (.agg #[.bool (decide (z<0)),sl])∧ak w' w.heap.size sl z∧Below w.heap.size w w':=by
 subst hz;exact pu neg ls v w base hown h hl
theorem bn {w w2:World} {sl:Value} {xs:List Int} (c base:Nat) (u:Value) (h1:w.heap.size≤c) (h2:c<base) (hoc:aF w2 base sl xs) (hB:Below w.heap.size w w2) :
  aF ((w2.setCell ⟨c,0,none⟩ u).setCell ⟨c,1,none⟩ sl) w.heap.size sl xs∧Below w.heap.size w ((w2.setCell ⟨c,0,none⟩ u).setCell ⟨c,1,none⟩ sl):=by
 refine ⟨aF.base (World.ownsRow.kept hoc (cF w2 c u sl) ?_) (by omega),(hB.setCell h1 _).setCell h1 _⟩
 cases hs:sl.ownBlock with
 | none=>exact Or.inl rfl
 | some g=>
 right
 intro e
 injection e with e
 have:=(aF.lt hoc g hs).1;omega
theorem cW (w:World) (o o':Obj):((w.alloc o).alloc o').heap.size=w.heap.size+2:=by rw [wN,wN]
theorem am.new2 (w:World) (o:Obj) (u v:Value) (T:TypeId):am ((w.alloc o).alloc (.cells #[u,v] T)) (w.heap.size+1) u v:=by
 have:=am.new (w.alloc o) u v T
 rwa [wN] at this
theorem gh (z:Int) (sl:Value) (w:World) (base:Nat) (ho:ak w base sl z) (hl:(Wh.a_ z.natAbs).length≤1000000) :
  Calls Tryz.prog 141 #[.agg #[.bool (decide (z<0)),sl]] w fun e w'=>∃ sl',e=.returned (.agg #[.bool (decide (-z<0)),sl'])∧ak w' w.heap.size sl' (-z)∧Below w.heap.size w w':=by
 have PT:=fun W v h=>ep (-z) (!decide (z<0)) (Wh.a_ z.natAbs) v W base h (Wh.bC _) hl (by rw [Wh.bM];exact Wh.oV z)
 obtain ⟨a,cap,rfl,hm,hv⟩:=aF.view ho;clear hm hv;have ho:=wM (show aF _ _ _ _ from ho);generalize -z=y,decide (z<0)=b at *;generalize (Wh.a_ z.natAbs).length=n,decide (y<0)=b' at *;have bz:=am.new2 w (.cells #[.bool b,.slice a n cap] 125) (.bool false) (.slice none 0 0) 125;have hz2:=cW w (.cells #[.bool b,.slice a n cap] 125) (.cells #[.bool false,.slice none 0 0] 125);cases b
 all_goals
  simp only [Bool.not_true,Bool.not_false] at PT;have PT:=wM PT;go_enter Tryz.func141,Tryz.ntmps141
  go_wp2_with (go_at_call 171;(with_reducible refine (PT.out _ _ (aF.alloc (aF.alloc ho.out _) _)).mono ?_);rintro e w2 ⟨vc,rfl,hoc,hbc⟩;obtain ⟨ac,wY,rfl,hmc,xR⟩:=aF.view hoc;have xW:=bz.keep hbc;have c0:=xW.c0;have c1:=xW.c1;have g0:=xW.f0;have g1:=xW.f1;clear xR hmc)
  have hr:=bn (w:=w) (w.heap.size+1) _ (.bool b') (by omega) (by rw [hz2];omega) hoc (by repeat (first | exact wP _ _ | refine aQ ?_ _ | refine aS ?_ (by assumption) | refine Below.drew ?_ | refine wO ?_ (by first | exact wQ _ | exact Nat.le_add_right _ _ | (simp <;> omega)) _ | refine aM ?_ _));generalize (Wh.a_ y.natAbs).length=n2 at *;exact bodyPost_ret (v:=.agg #[.bool b',.slice ac n2 wY]) (by simp [results,Tryz.results141,go_sem, *]) rfl (⟨_,rfl,hr.1,hr.2⟩)
theorem mX (z:Int) (sl:Value) (w:World) (base:Nat) (ho:ak w base sl z) (hl:(Wh.a_ z.natAbs).length≤1000000) :
  Calls Tryz.prog 182 #[.agg #[.bool (decide (z<0)),sl]] w fun e w'=>∃ sl',e=.returned (.agg #[.bool (decide ((z.natAbs:Int)<0)),sl'])∧ak w' w.heap.size sl' (z.natAbs:Int)∧Below w.heap.size w w':=by
 have PT:=fun W v h=>ep (z.natAbs:Int) false (Wh.a_ z.natAbs) v W base h (Wh.bC _) hl (by rw [Wh.bM];rfl)
 obtain ⟨a,cap,rfl,hm,hv⟩:=aF.view ho;clear hm hv;have ho:=wM (show aF _ _ _ _ from ho);generalize decide (z<0)=b at *;generalize (z.natAbs:Int)=y at *;generalize (Wh.a_ z.natAbs).length=n,decide (y<0)=b' at *;have bz:=am.new2 w (.cells #[.bool b,.slice a n cap] 125) (.bool false) (.slice none 0 0) 125;have hz2:=cW w (.cells #[.bool b,.slice a n cap] 125) (.cells #[.bool false,.slice none 0 0] 125);cases b
 all_goals
  have PT:=wM PT;go_enter Tryz.func182,Tryz.ntmps182
  go_wp2_with (go_at_call 171;(with_reducible refine (PT.out _ _ (aF.alloc (aF.alloc ho.out _) _)).mono ?_);rintro e w2 ⟨vc,rfl,hoc,hbc⟩;obtain ⟨ac,wY,rfl,hmc,xR⟩:=aF.view hoc;have xW:=bz.keep hbc;have c0:=xW.c0;have c1:=xW.c1;have g0:=xW.f0;have g1:=xW.f1;clear xR hmc)
  have hr:=bn (w:=w) (w.heap.size+1) _ (.bool b') (by omega) (by rw [hz2];omega) hoc (by repeat (first | exact wP _ _ | refine aQ ?_ _ | refine aS ?_ (by assumption) | refine Below.drew ?_ | refine wO ?_ (by first | exact wQ _ | exact Nat.le_add_right _ _ | (simp <;> omega)) _ | refine aM ?_ _));generalize (Wh.a_ y.natAbs).length=n2 at *;exact bodyPost_ret (v:=.agg #[.bool b',.slice ac n2 wY]) (by simp [results,Tryz.results182,go_sem, *]) rfl (⟨_,rfl,hr.1,hr.2⟩)
theorem am.dD {w w':World} {b base:Nat} {u v:Value} (h:am w b u v) (hb:Below base w w') (hl:b<base):am w' b u v:=
 ⟨(hb.cell (p:=⟨b,0,none⟩) hl).trans h.c0,(hb.cell (p:=⟨b,1,none⟩) hl).trans h.c1,(hb.frozen (p:=⟨b,0,none⟩) hl).trans h.f0,(hb.frozen (p:=⟨b,1,none⟩) hl).trans h.f1,Nat.lt_of_lt_of_le h.size hb.size⟩
theorem bV (n:Int) (w:World) (h1:-1000000000000000000≤n) (h2:n≤1000000000000000000) :
  Calls Tryz.prog 139 #[.int .i64 n] w fun e w'=>∃ sl,e=.returned (.agg #[.bool (decide (n<0)),sl])∧ak w' w.heap.size sl n∧Below w.heap.size w w':=by
 obtain ⟨k,hk⟩:∃ k:Nat,n.natAbs=k:=⟨_,rfl⟩
 have PT:=fun (o:List Int) (W:World) (v:Value) (base:Nat) (h:aF W base v o) (hl:Wh.bK o) (hv:Wh.val o=k) (hlen:o.length≤1000000)=>ep n (decide (n<0)) o v W base h hl hlen (by rw [hv,←hk];exact Wh.mH n)
 have hbd:(k:Int)≤1000000000000000000:=by omega
 have bx:=am.new w (.bool false) (.slice none 0 0) 125
 by_cases hneg:n<0
 ·obtain rfl:n=-(k:Int):=by omega
  have hk0:0<(k:Int):=by omega
  have hdk:decide (-(k:Int)<0)=decide (0<k):=by rw [decide_eq_decide];omega
  rw [hdk] at PT ⊢;clear hdk;have PT:=wM PT;clear hk hneg h1 h2;go_enter Tryz.func139,Tryz.ntmps139
  go_wp2
  go_loopw [0,4] (fun vn vo wr=>∃ (m:Nat) (o:List Int),vn=.int .i64 m∧aF wr (w.heap.size+1) vo o∧Wh.bK o∧Wh.val o+10000 ^ o.length*(m:Int)=k∧m≤1000000000000000000∧o.length≤5∧Hid (am wr w.heap.size (.bool false) (.slice none 0 0))∧Below w.heap.size w wr) (fun vn _ _=>(intOf vn).toNat)
  case atStart=>exact ⟨k,[],rfl,aF.nil _ _,(fun x hx=>by cases hx),by simp [Wh.val],by omega,by simp,wM bx,(wP _ _).alloc (wQ _) _⟩
  case round=>
  clear bx;obtain ⟨m,o,rfl,hown,hls,hvl,hm18,wl,yC,hbr⟩:=hrel;have hls:=wM hls;have BE:w.heap.size+1≤wr.heap.size:=yC.out.size
  by_cases hm0:0<m
  ·have hlen:=Wh.kv hls.out hvl (by omega) (by omega)
   have hst:=Wh.iX hvl (by omega);rw [show ((m:Int) % 10000)=((m % 10000:Nat):Int) by omega,show ((m:Int) / 10000)=((m / 10000:Nat):Int) by omega] at hst;have hst:=wM hst;have hrb:m % 10000<10000:=Nat.mod_lt _ (by decide);have H9:m / 10000<m:=Nat.div_lt_self hm0 (by decide)
   have t1:Int.tmod (m:Int) 10000=((m % 10000:Nat):Int):=by rw [Int.tmod_eq_emod_of_nonneg (by omega)];omega
   have t2:Int.tdiv (m:Int) 10000=((m / 10000:Nat):Int):=by rw [Int.tdiv_eq_ediv_of_nonneg (by omega)];omega
   generalize m / 10000=q,m % 10000=r at *;have hl2:Hid (Wh.bK (o ++ [(r:Int)])):=wM (Wh.b9 hls.out fun y hy=>by rw [List.mem_singleton] at hy;subst hy;unfold Wh.lim;omega);have hl3:Hid ((o ++ [(r:Int)]).length≤5):=wM (by rw [List.length_append];simp;omega);have hown:=wM hown;clear hvl
   go_wp2_with (at_builtin;refine cS (W:=wr) (w.heap.size+1) (r:Int) _ _ rfl (.tmp 15) (.tmp 18) rfl rfl rfl hown.out (wP _ _) (by omega) (by omega) ?_;rintro v6 w6 hown6 hb6)
   go_roundw
   case rel=>exact ⟨q,o ++ [(r:Int)],rfl,hown6,hl2.out,hst.out,by omega,hl3.out,wM (yC.out.dD hb6 (Nat.lt_succ_self _)),hbr.trans (hb6.mono (Nat.le_succ _))⟩
   case measure=>simp [intOf];omega
  obtain rfl:m=0:=by omega
  have yM:Wh.val o=k:=by rw [←hvl];simp
  have yM:=wM yM;have hown:=wM hown;clear hvl
  go_wp2_with (go_at_call 171;(with_reducible refine (PT.out o _ _ _ hown.out hls.out yM.out (by omega)).mono ?_);rintro e w2 ⟨vc,rfl,hoc,hbc⟩;obtain ⟨ac,wY,rfl,hmc,xR⟩:=aF.view hoc;have xW:=yC.out.keep hbc;have c0:=xW.c0;have c1:=xW.c1;have g0:=xW.f0;have g1:=xW.f1;clear xR hmc)
  have hr:=bn (w:=w) w.heap.size _ (.bool (decide (0<k))) (wQ _) yC.out.size hoc (hbr.trans (hbc.mono (by omega)))
  have en:(-(k:Int)).natAbs=k:=by omega
  rw [en] at hr;generalize (Wh.a_ k).length=n2 at *;exact bodyPost_ret (v:=.agg #[.bool (decide (0<k)),.slice ac n2 wY]) (by simp [results,Tryz.results139,go_sem, *]) rfl (⟨_,rfl,by unfold ak;rw [en];exact hr.1,hr.2⟩)
 obtain rfl:n=(k:Int):=by omega
 rw [decide_eq_false hneg] at PT ⊢;have PT:=wM PT;clear hk h1 h2
 have LE:0≤(k:Int):=by omega
 go_enter Tryz.func139,Tryz.ntmps139
 go_wp2
 go_loopw [0,4] (fun vn vo wr=>∃ (m:Nat) (o:List Int),vn=.int .i64 m∧aF wr (w.heap.size+1) vo o∧Wh.bK o∧Wh.val o+10000 ^ o.length*(m:Int)=k∧m≤1000000000000000000∧o.length≤5∧Hid (am wr w.heap.size (.bool false) (.slice none 0 0))∧Below w.heap.size w wr) (fun vn _ _=>(intOf vn).toNat)
 case atStart=>exact ⟨k,[],rfl,aF.nil _ _,(fun x hx=>by cases hx),by simp [Wh.val],by omega,by simp,wM bx,(wP _ _).alloc (wQ _) _⟩
 case round=>
 clear bx;obtain ⟨m,o,rfl,hown,hls,hvl,hm18,wl,yC,hbr⟩:=hrel;have hls:=wM hls;have BE:w.heap.size+1≤wr.heap.size:=yC.out.size
 by_cases hm0:0<m
 ·have hlen:=Wh.kv hls.out hvl (by omega) (by omega)
  have hst:=Wh.iX hvl (by omega);rw [show ((m:Int) % 10000)=((m % 10000:Nat):Int) by omega,show ((m:Int) / 10000)=((m / 10000:Nat):Int) by omega] at hst;have hst:=wM hst;have hrb:m % 10000<10000:=Nat.mod_lt _ (by decide);have H9:m / 10000<m:=Nat.div_lt_self hm0 (by decide)
  have t1:Int.tmod (m:Int) 10000=((m % 10000:Nat):Int):=by rw [Int.tmod_eq_emod_of_nonneg (by omega)];omega
  have t2:Int.tdiv (m:Int) 10000=((m / 10000:Nat):Int):=by rw [Int.tdiv_eq_ediv_of_nonneg (by omega)];omega
  generalize m / 10000=q,m % 10000=r at *;have hl2:Hid (Wh.bK (o ++ [(r:Int)])):=wM (Wh.b9 hls.out fun y hy=>by rw [List.mem_singleton] at hy;subst hy;unfold Wh.lim;omega);have hl3:Hid ((o ++ [(r:Int)]).length≤5):=wM (by rw [List.length_append];simp;omega);have hown:=wM hown;clear hvl
  go_wp2_with (at_builtin;refine cS (W:=wr) (w.heap.size+1) (r:Int) _ _ rfl (.tmp 15) (.tmp 18) rfl rfl rfl hown.out (wP _ _) (by omega) (by omega) ?_;rintro v6 w6 hown6 hb6)
  go_roundw
  case rel=>exact ⟨q,o ++ [(r:Int)],rfl,hown6,hl2.out,hst.out,by omega,hl3.out,wM (yC.out.dD hb6 (Nat.lt_succ_self _)),hbr.trans (hb6.mono (Nat.le_succ _))⟩
  case measure=>simp [intOf];omega
 obtain rfl:m=0:=by omega
 have yM:Wh.val o=k:=by rw [←hvl];simp
 have yM:=wM yM;have hown:=wM hown;clear hvl
 go_wp2_with (go_at_call 171;(with_reducible refine (PT.out o _ _ _ hown.out hls.out yM.out (by omega)).mono ?_);rintro e w2 ⟨vc,rfl,hoc,hbc⟩;obtain ⟨ac,wY,rfl,hmc,xR⟩:=aF.view hoc;have xW:=yC.out.keep hbc;have c0:=xW.c0;have c1:=xW.c1;have g0:=xW.f0;have g1:=xW.f1;clear xR hmc)
 have hr:=bn (w:=w) w.heap.size _ (.bool false) (wQ _) yC.out.size hoc (hbr.trans (hbc.mono (by omega)))
 have en:(k:Int).natAbs=k:=by omega
 rw [en] at hr;generalize (Wh.a_ k).length=n2 at *;exact bodyPost_ret (v:=.agg #[.bool false,.slice ac n2 wY]) (by simp [results,Tryz.results139,go_sem, *]) rfl (⟨_,rfl,by unfold ak;rw [en];exact hr.1,hr.2⟩)
theorem sv (xs:List Int) (v:Value) (w:World) (base:Nat) (hown:aF w base v xs) (hl:xs.length≤1000000000) :
  Calls Tryz.prog 192 #[v] w fun e w'=>∃ v',e=.returned v'∧aF w' w.heap.size v' xs∧Below w.heap.size w w':=by
 obtain ⟨A,cap',rfl,hf⟩:=lW hown;have hf:=wM hf;go_enter Tryz.func192,Tryz.ntmps192
 go_wp2_with (at_builtin;refine l9 (W:=w) w.heap.size xs [] _ A _ _ (by rfl) (by rfl) (.tmp 3) (.tmp 4) (by rfl) (by rfl) (by rfl) (hf.out _ (by repeat (first | exact wP _ _ | refine aQ ?_ _ | refine aS ?_ (by assumption) | refine Below.drew ?_ | refine wO ?_ (by first | exact wQ _ | exact Nat.le_add_right _ _ | (simp <;> omega)) _ | refine aM ?_ _))) (aF.ua _ _ (wQ _)) (by repeat (first | exact wP _ _ | refine aQ ?_ _ | refine aS ?_ (by assumption) | refine Below.drew ?_ | refine wO ?_ (by first | exact wQ _ | exact Nat.le_add_right _ _ | (simp <;> omega)) _ | refine aM ?_ _)) (by simp) (by simp;omega) ?_;rintro v1 w1 hown1 hb1)
 go_ret;exact ⟨_,rfl,hown1,hb1⟩
theorem qR (neg:Bool) (ls:List Int) (v:Value) (w:World) (base:Nat) (hown:aF w base v ls) (h:Wh.bK ls) (hl:ls.length≤1000000) :
  Calls Tryz.prog 168 #[.bool neg,v] w fun e w'=>∃ sl,e=.returned (.agg #[.bool (decide (Wh.yJ neg (Wh.val ls)<0)),sl])∧ak w' w.heap.size sl (Wh.yJ neg (Wh.val ls))∧Below w.heap.size w w':=by
 obtain ⟨a,cap,rfl,hm,hv⟩:=hown.seen;have hv:=wM hv;have hgt:=wM (Wh.iV h);have hn:=Wh.cX h;have hs1:=wM (Wh.oR (neg:=neg) hn);have hs2:=wM (Wh.kf (neg:=neg) hn);have hls:=wM h;have hcp:=hown.cap;replace hown:=wM hown;clear hm hn h;have bx:=am.new w (.bool false) (.slice none 0 0) 125;go_enter Tryz.func168,Tryz.ntmps168
 go_wp2
 go_loopw [5] (fun vl wr=>∃ k:Nat,k≤ls.length∧vl=.int .i64 k∧Wh.trim (ls.take k)=Wh.trim ls∧wr=w.alloc (.cells #[.bool false,.slice none 0 0] 125)) (fun vl _=>(intOf vl).toNat)
 case atStart=>exact ⟨ls.length,wQ _,rfl,by rw [List.take_length],rfl⟩
 case round=>
 obtain ⟨k,hk,rfl,htr,rfl⟩:=hrel;have hown2:aF (w.alloc (.cells #[.bool false,.slice none 0 0] 125)) base (.slice a k cap) (ls.take k):=(aF.vO hown.out hk).alloc _
 have fin:ls.take k=Wh.a_ (Wh.val ls).toNat→Hid ((decide (Wh.yJ neg (Wh.val ls)<0)=(neg && decide (0<k)))∧∀ (W:World) (b:Nat) (vc:Value),aF W b vc (ls.take k)→ak W b vc (Wh.yJ neg (Wh.val ls))):=fun h=>wM (by
  have h2:=Wh.mJ hk h;have hn:=Wh.cX hls.out;refine ⟨?_,fun W b vc ho=>?_⟩
  ·rw [hs1.out]
   congr 1
   rw [decide_eq_decide,←h2];omega
  unfold ak;rw [hs2.out,←h]
  exact ho)
 have PC:=fun W v h=>sv (ls.take k) v W base h (by rw [List.length_take];omega)
 have PC:=wM PC;have hown2:=wM hown2;have htr:=wM htr
 cases k with
 | zero=>
  have f2:=fin (by rw [←hgt.out,←htr.out];rfl);clear fin htr hgt;cases neg
  all_goals
   go_wp2_with (go_at_call 192;(with_reducible refine (PC.out _ _ hown2.out).mono ?_);rintro e w2 ⟨vc,rfl,hoc,hbc⟩;obtain ⟨ac,wY,rfl,hmc,xR⟩:=hoc.view;have xW:=bx.keep hbc;have c0:=xW.c0;have c1:=xW.c1;have g0:=xW.f0;have g1:=xW.f1;clear xR hmc)
   have hr:=pk (.bool false) hoc hbc;exact bodyPost_ret (v:=.agg #[.bool false,.slice ac 0 wY]) (by simp [results,Tryz.results168,go_sem, *]) rfl (⟨_,by rw [f2.out.1] <;> rfl,f2.out.2 _ _ _ hr.1,hr.2⟩)
 | succ m=>
 obtain ⟨g,x,rfl,hg,hx,hcell⟩:=hv.out m (by omega)
 by_cases h0:x=0
 ·subst h0
  have hct:=wM ((Wh.mM (by omega) hx.out).symm.trans htr.out);clear fin htr;go_wp2
  go_roundw
  case rel=>exact ⟨m,by omega,by go_num,hct.out,by first | rfl | trivial⟩
  case measure=>simp [intOf]
 have f2:=fin (by rw [←hgt.out,←htr.out,Wh.jr hx.out h0]);generalize ls.take (m+1)=L at *;clear fin htr hgt;cases neg
 ·go_wp2_with (go_at_call 192;(with_reducible refine (PC.out _ _ hown2.out).mono ?_);rintro e w2 ⟨vc,rfl,hoc,hbc⟩;obtain ⟨ac,wY,rfl,hmc,xR⟩:=hoc.view;have xW:=bx.keep hbc;have c0:=xW.c0;have c1:=xW.c1;have g0:=xW.f0;have g1:=xW.f1;clear xR hmc)
  have hr:=pk (.bool false) hoc hbc;exact bodyPost_ret (v:=.agg #[.bool false,.slice ac L.length wY]) (by simp [results,Tryz.results168,go_sem, *]) rfl (⟨_,by rw [f2.out.1] <;> rfl,f2.out.2 _ _ _ hr.1,hr.2⟩)
 go_wp2_with (go_at_call 192;(with_reducible refine (PC.out _ _ hown2.out).mono ?_);rintro e w2 ⟨vc,rfl,hoc,hbc⟩;obtain ⟨ac,wY,rfl,hmc,xR⟩:=hoc.view;have xW:=bx.keep hbc;have c0:=xW.c0;have c1:=xW.c1;have g0:=xW.f0;have g1:=xW.f1;clear xR hmc)
 have hr:=pk (.bool true) hoc hbc;exact bodyPost_ret (v:=.agg #[.bool true,.slice ac L.length wY]) (by simp [results,Tryz.results168,go_sem, *]) rfl (⟨_,by rw [f2.out.1] <;> simp,f2.out.2 _ _ _ hr.1,hr.2⟩)
theorem fT (z:Int) (neg:Bool) (ls:List Int) (v:Value) (w:World) (base:Nat) (hown:aF w base v ls) (h:Wh.bK ls) (hl:ls.length≤1000000) (hz:Wh.yJ neg (Wh.val ls)=z) :
  Calls Tryz.prog 168 #[.bool neg,v] w fun e w'=>∃ sl,e=.returned (.agg #[.bool (decide (z<0)),sl])∧ak w' w.heap.size sl z∧Below w.heap.size w w':=by
 subst hz;exact qR neg ls v w base hown h hl
theorem gP (z:Int) (sl:Value) (w:World) (base:Nat) (ho:ak w base sl z) (hl:(Wh.a_ z.natAbs).length≤1000000) :
  Calls Tryz.prog 188 #[.agg #[.bool (decide (z<0)),sl]] w fun e w'=>∃ sl',e=.returned (.agg #[.bool (decide (-z<0)),sl'])∧ak w' w.heap.size sl' (-z)∧Below w.heap.size w w':=by
 have PT:=fun W v h=>fT (-z) (!decide (z<0)) (Wh.a_ z.natAbs) v W base h (Wh.bC _) hl (by rw [Wh.bM];exact Wh.oV z)
 obtain ⟨a,cap,rfl,hm,hv⟩:=aF.view ho;clear hm hv;have ho:=wM (show aF _ _ _ _ from ho);generalize -z=y,decide (z<0)=b at *;generalize (Wh.a_ z.natAbs).length=n,decide (y<0)=b' at *;have bz:=am.new2 w (.cells #[.bool b,.slice a n cap] 125) (.bool false) (.slice none 0 0) 125;have hz2:=cW w (.cells #[.bool b,.slice a n cap] 125) (.cells #[.bool false,.slice none 0 0] 125);cases b
 all_goals
  simp only [Bool.not_true,Bool.not_false] at PT;have PT:=wM PT;go_enter Tryz.func188,Tryz.ntmps188
  go_wp2_with (go_at_call 168;(with_reducible refine (PT.out _ _ (aF.alloc (aF.alloc ho.out _) _)).mono ?_);rintro e w2 ⟨vc,rfl,hoc,hbc⟩;obtain ⟨ac,wY,rfl,hmc,xR⟩:=aF.view hoc;have xW:=bz.keep hbc;have c0:=xW.c0;have c1:=xW.c1;have g0:=xW.f0;have g1:=xW.f1;clear xR hmc)
  have hr:=bn (w:=w) (w.heap.size+1) _ (.bool b') (by omega) (by rw [hz2];omega) hoc (by repeat (first | exact wP _ _ | refine aQ ?_ _ | refine aS ?_ (by assumption) | refine Below.drew ?_ | refine wO ?_ (by first | exact wQ _ | exact Nat.le_add_right _ _ | (simp <;> omega)) _ | refine aM ?_ _));generalize (Wh.a_ y.natAbs).length=n2 at *;exact bodyPost_ret (v:=.agg #[.bool b',.slice ac n2 wY]) (by simp [results,Tryz.results188,go_sem, *]) rfl (⟨_,rfl,hr.1,hr.2⟩)
theorem iq (n:Int) (w:World) (h1:-1000000000000000000≤n) (h2:n≤1000000000000000000) :
  Calls Tryz.prog 135 #[.int .i64 n] w fun e w'=>∃ sl,e=.returned (.agg #[.bool (decide (n<0)),sl])∧ak w' w.heap.size sl n∧Below w.heap.size w w':=by
 obtain ⟨k,hk⟩:∃ k:Nat,n.natAbs=k:=⟨_,rfl⟩
 have PT:=fun (o:List Int) (W:World) (v:Value) (base:Nat) (h:aF W base v o) (hl:Wh.bK o) (hv:Wh.val o=k) (hlen:o.length≤1000000)=>fT n (decide (n<0)) o v W base h hl hlen (by rw [hv,←hk];exact Wh.mH n)
 have PA:=fun W=>cm n W (by omega) (by omega)
 rw [hk] at PA
 have hbd:(k:Int)≤1000000000000000000:=by omega
 have bx:=am.new w (.bool false) (.slice none 0 0) 125
 by_cases hneg:n<0
 ·obtain rfl:n=-(k:Int):=by omega
  have hk0:0<(k:Int):=by omega
  have hdk:decide (-(k:Int)<0)=decide (0<k):=by rw [decide_eq_decide];omega
  rw [hdk] at PT ⊢;clear hdk;have PT:=wM PT;have PA:=wM PA;clear hk hneg h1 h2;go_enter Tryz.func135,Tryz.ntmps135
  go_wp2_with (go_at_call 131;(with_reducible refine (PA.out _).mono ?_);rintro e w1 ⟨rfl,rfl⟩)
  go_loopw [3,4] (fun vo vn wr=>∃ (m:Nat) (o:List Int),vn=.int .i64 m∧aF wr (w.heap.size+1) vo o∧Wh.bK o∧Wh.val o+10000 ^ o.length*(m:Int)=k∧m≤1000000000000000000∧o.length≤5∧Hid (am wr w.heap.size (.bool false) (.slice none 0 0))∧Below w.heap.size w wr) (fun _ vn _=>(intOf vn).toNat)
  case atStart=>exact ⟨k,[],rfl,aF.nil _ _,(fun x hx=>by cases hx),by simp [Wh.val],by omega,by simp,wM bx,(wP _ _).alloc (wQ _) _⟩
  case round=>
  clear bx;obtain ⟨m,o,rfl,hown,hls,hvl,hm18,wl,yC,hbr⟩:=hrel;have hls:=wM hls;have BE:w.heap.size+1≤wr.heap.size:=yC.out.size
  by_cases hm0:0<m
  ·have hlen:=Wh.kv hls.out hvl (by omega) (by omega)
   have hst:=Wh.iX hvl (by omega);rw [show ((m:Int) % 10000)=((m % 10000:Nat):Int) by omega,show ((m:Int) / 10000)=((m / 10000:Nat):Int) by omega] at hst;have hst:=wM hst;have hrb:m % 10000<10000:=Nat.mod_lt _ (by decide);have H9:m / 10000<m:=Nat.div_lt_self hm0 (by decide)
   have t1:Int.tmod (m:Int) 10000=((m % 10000:Nat):Int):=by rw [Int.tmod_eq_emod_of_nonneg (by omega)];omega
   have t2:Int.tdiv (m:Int) 10000=((m / 10000:Nat):Int):=by rw [Int.tdiv_eq_ediv_of_nonneg (by omega)];omega
   generalize m / 10000=q,m % 10000=r at *;have hl2:Hid (Wh.bK (o ++ [(r:Int)])):=wM (Wh.b9 hls.out fun y hy=>by rw [List.mem_singleton] at hy;subst hy;unfold Wh.lim;omega);have hl3:Hid ((o ++ [(r:Int)]).length≤5):=wM (by rw [List.length_append];simp;omega);have hown:=wM hown;clear hvl
   go_wp2_with (at_builtin;refine cS (W:=wr) (w.heap.size+1) (r:Int) _ _ rfl (.tmp 11) (.tmp 14) rfl rfl rfl hown.out (wP _ _) (by omega) (by omega) ?_;rintro v6 w6 hown6 hb6)
   go_roundw
   case rel=>exact ⟨q,o ++ [(r:Int)],rfl,hown6,hl2.out,hst.out,by omega,hl3.out,wM (yC.out.dD hb6 (Nat.lt_succ_self _)),hbr.trans (hb6.mono (Nat.le_succ _))⟩
   case measure=>simp [intOf];omega
  obtain rfl:m=0:=by omega
  have yM:Wh.val o=k:=by rw [←hvl];simp
  have yM:=wM yM;have hown:=wM hown;clear hvl
  go_wp2_with (go_at_call 168;(with_reducible refine (PT.out o _ _ _ hown.out hls.out yM.out (by omega)).mono ?_);rintro e w2 ⟨vc,rfl,hoc,hbc⟩;obtain ⟨ac,wY,rfl,hmc,xR⟩:=aF.view hoc;have xW:=yC.out.keep hbc;have c0:=xW.c0;have c1:=xW.c1;have g0:=xW.f0;have g1:=xW.f1;clear xR hmc)
  have hr:=bn (w:=w) w.heap.size _ (.bool (decide (0<k))) (wQ _) yC.out.size hoc (hbr.trans (hbc.mono (by omega)))
  have en:(-(k:Int)).natAbs=k:=by omega
  rw [en] at hr;generalize (Wh.a_ k).length=n2 at *;exact bodyPost_ret (v:=.agg #[.bool (decide (0<k)),.slice ac n2 wY]) (by simp [results,Tryz.results135,go_sem, *]) rfl (⟨_,rfl,by unfold ak;rw [en];exact hr.1,hr.2⟩)
 obtain rfl:n=(k:Int):=by omega
 have PT:=wM PT;have PA:=wM PA;clear hk h1 h2
 have LE:0≤(k:Int):=by omega
 go_enter Tryz.func135,Tryz.ntmps135
 go_wp2_with (go_at_call 131;(with_reducible refine (PA.out _).mono ?_);rintro e w1 ⟨rfl,rfl⟩)
 go_loopw [3,4] (fun vo vn wr=>∃ (m:Nat) (o:List Int),vn=.int .i64 m∧aF wr (w.heap.size+1) vo o∧Wh.bK o∧Wh.val o+10000 ^ o.length*(m:Int)=k∧m≤1000000000000000000∧o.length≤5∧Hid (am wr w.heap.size (.bool false) (.slice none 0 0))∧Below w.heap.size w wr) (fun _ vn _=>(intOf vn).toNat)
 case atStart=>exact ⟨k,[],rfl,aF.nil _ _,(fun x hx=>by cases hx),by simp [Wh.val],by omega,by simp,wM bx,(wP _ _).alloc (wQ _) _⟩
 case round=>
 clear bx;obtain ⟨m,o,rfl,hown,hls,hvl,hm18,wl,yC,hbr⟩:=hrel;have hls:=wM hls;have BE:w.heap.size+1≤wr.heap.size:=yC.out.size
 by_cases hm0:0<m
 ·have hlen:=Wh.kv hls.out hvl (by omega) (by omega)
  have hst:=Wh.iX hvl (by omega);rw [show ((m:Int) % 10000)=((m % 10000:Nat):Int) by omega,show ((m:Int) / 10000)=((m / 10000:Nat):Int) by omega] at hst;have hst:=wM hst;have hrb:m % 10000<10000:=Nat.mod_lt _ (by decide);have H9:m / 10000<m:=Nat.div_lt_self hm0 (by decide)
  have t1:Int.tmod (m:Int) 10000=((m % 10000:Nat):Int):=by rw [Int.tmod_eq_emod_of_nonneg (by omega)];omega
  have t2:Int.tdiv (m:Int) 10000=((m / 10000:Nat):Int):=by rw [Int.tdiv_eq_ediv_of_nonneg (by omega)];omega
  generalize m / 10000=q,m % 10000=r at *;have hl2:Hid (Wh.bK (o ++ [(r:Int)])):=wM (Wh.b9 hls.out fun y hy=>by rw [List.mem_singleton] at hy;subst hy;unfold Wh.lim;omega);have hl3:Hid ((o ++ [(r:Int)]).length≤5):=wM (by rw [List.length_append];simp;omega);have hown:=wM hown;clear hvl
  go_wp2_with (at_builtin;refine cS (W:=wr) (w.heap.size+1) (r:Int) _ _ rfl (.tmp 11) (.tmp 14) rfl rfl rfl hown.out (wP _ _) (by omega) (by omega) ?_;rintro v6 w6 hown6 hb6)
  go_roundw
  case rel=>exact ⟨q,o ++ [(r:Int)],rfl,hown6,hl2.out,hst.out,by omega,hl3.out,wM (yC.out.dD hb6 (Nat.lt_succ_self _)),hbr.trans (hb6.mono (Nat.le_succ _))⟩
  case measure=>simp [intOf];omega
 obtain rfl:m=0:=by omega
 have yM:Wh.val o=k:=by rw [←hvl];simp
 have yM:=wM yM;have hown:=wM hown;clear hvl
 go_wp2_with (go_at_call 168;(with_reducible refine (PT.out o _ _ _ hown.out hls.out yM.out (by omega)).mono ?_);rintro e w2 ⟨vc,rfl,hoc,hbc⟩;obtain ⟨ac,wY,rfl,hmc,xR⟩:=aF.view hoc;have xW:=yC.out.keep hbc;have c0:=xW.c0;have c1:=xW.c1;have g0:=xW.f0;have g1:=xW.f1;clear xR hmc)
 have hr:=bn (w:=w) w.heap.size _ (.bool (decide ((k:Int)<0))) (wQ _) yC.out.size hoc (hbr.trans (hbc.mono (by omega)))
 have en:(k:Int).natAbs=k:=by omega
 rw [en] at hr;generalize (Wh.a_ k).length=n2 at *;exact bodyPost_ret (v:=.agg #[.bool (decide ((k:Int)<0)),.slice ac n2 wY]) (by simp [results,Tryz.results135,go_sem, *]) rfl (⟨_,rfl,by unfold ak;rw [en];exact hr.1,hr.2⟩)
def ia (W:World) (base:Nat) (v:Value) (z:Int) (n:Nat):Prop:=∃ o,aF W base v o∧Wh.bK o∧Wh.val o=z∧o.length≤n
theorem rI (n:Nat):(madeCells (Value.int .i64 0).cells (n*1)).toList=(List.replicate n (0:Int)).map (Value.int .i64):=by
 show (madeCells #[Value.int .i64 0] (n*1)).toList=_
 rw [toList_madeCells_one,Nat.mul_one,List.map_replicate]
theorem jk (w:World) (n:Nat) (hn:n≤1000000000):∃ w1,(Instr.makeSlice 60 (.int .i64 (n:Int)) (.int .i64 (n:Int))).run Tryz.prog w=.ok (.slice (some ⟨w.heap.size,0,none⟩) n n) w1∧
  aF w1 w.heap.size (.slice (some ⟨w.heap.size,0,none⟩) n n) (List.replicate n 0)∧w.grownBy w1 none:=by
 obtain ⟨i0,hi,hz0,hz1,hz2⟩:=info_parts jB;obtain ⟨w1,h1,h2,h3⟩:=run_make_full (P:=Tryz.prog) w w.heap.size 60 3 i0 (.int .i64 0) 1 Tryz.underlying60 hi hz0 hz1 .i64 .i64 n (by rw [hz2];omega) (by unfold maxLen;omega) (wQ _);refine ⟨w1,h1,?_,h3⟩;unfold aF;rw [←rI,List.length_replicate];exact h2
theorem eV {w:World} {base g cap n:Nat} {l:List Int} (hl:l.length=n) (h:aF w base (.slice (some ⟨g,0,none⟩) n cap) l) (i:Nat):w.frozen? ⟨g,i,none⟩=false:=by
 unfold aF at h;rw [hl] at h;exact World.ownsRow.frozenAt h i
theorem mG {l:List Int} {i n:Nat} (hl:l.length=i) (hi:i<n) (x:Int):l ++ [x] ++ List.replicate (n - (i+1)) 0=(l ++ List.replicate (n - i) 0).set i x:=by
 rw [List.set_append_right _ _ (by omega),hl,Nat.sub_self,show n - i=(n - (i+1))+1 by omega,List.replicate_succ,List.set_cons_zero];simp
theorem ly {l:List Int} {i n:Nat} (hl:l.length=i) (hi:i<n):(l ++ List.replicate (n - i) (0:Int))[i]?=some 0:=by
 rw [List.getElem?_append_right (by omega),hl,Nat.sub_self,List.getElem?_replicate,if_pos (by omega)]
theorem lr {l:List Int} {i n:Nat} (hl:l.length=i) (hi:i≤n):(l ++ List.replicate (n - i) (0:Int)).length=n:=by
 rw [List.length_append,List.length_replicate];omega
theorem ie (xs ys:List Int) (s:Int) (va vb:Value) (w:World) (ba bb:Nat) (hs:s=1∨s=-1) (hoa:aF w ba va xs) (x5:aF w bb vb ys) (hla:Wh.bK xs) (hlb:Wh.bK ys) (hnn:0≤Wh.val xs+s*Wh.val ys) (hl1:xs.length≤100000) (hl2:ys.length≤100000) :
  Calls Tryz.prog 172 #[va,vb,.int .i64 s] w fun e w'=>∃ v,e=.returned v∧ia w' w.heap.size v (Wh.val xs+s*Wh.val ys) (xs.length+ys.length+1)∧Below w.heap.size w w':=by
 obtain ⟨aa,i_,rfl,hma,hva⟩:=hoa.seen;obtain ⟨ab,s_,rfl,hmb,hvb⟩:=x5.seen;have hva:=wM hva;have hvb:=wM hvb;have hla:=wM hla;have hlb:=wM hlb;have hnn:=wM hnn;clear hma hmb hoa x5
 by_cases hab:xs.length<ys.length
 ·obtain ⟨w1,hrun,hown1,hg1⟩:=jk w (ys.length+1) (by omega)
  rw [show ((ys.length+1:Nat):Int)=(ys.length:Int)+1 by omega] at hrun;have hb1:Below w.heap.size w w1:=b8 hg1 (wQ _) (fun k hk=>by cases hk);clear hg1;go_enter Tryz.func172,Tryz.ntmps172
  go_wp2
  go_loopw [8,9,10,20,46,51] (fun vc _ _ vi _ _ wr=>∃ (i:Nat) (o:List Int) (c:Int),i≤ys.length+1∧vi=.int .i64 i∧vc=.int .i64 c∧aF wr w.heap.size (.slice (some ⟨w.heap.size,0,none⟩) (ys.length+1) (ys.length+1)) (o ++ List.replicate (ys.length+1 - i) 0)∧Wh.eR xs ys s i o c∧Below w.heap.size w wr) (fun _ _ _ vi _ _ _=>ys.length+1 - (intOf vi).toNat)
  case atStart=>exact ⟨0,[],0,by omega,rfl,rfl,by simpa using hown1,Wh.eR.start xs ys s,hb1⟩
  case round=>
  clear hown1 hb1;obtain ⟨i,o,c,hi,rfl,rfl,hown,hai,hbr⟩:=hrel
  by_cases hlt:i<ys.length+1
  ·have hrg:=hai.rng hs hla.out hlb.out
   have hl0:=lr hai.len hi;have hc0:=aF.cellAt hl0.symm hown (ly hai.len hlt);have hf0:wr.frozen? ⟨w.heap.size,i,none⟩=false:=eV hl0 hown i
   have hst:=wM fun x=>aF.set hl0.symm hown x (mG hai.len hlt x)
   have hstep:=wM fun x c' h1 h2 h3 h4=>hai.step (x:=x) (c':=c') h1 h2 h3 h4
   have BE:=hbr.size;have xi:=wM hbr;clear hown hl0 hai
   by_cases ha:i<xs.length
   ·obtain ⟨ga,xa,ea,hga,hxa,hca⟩:=hva.out i ha
    subst ea;have hca:=aE hbr hca;rw [Wh.cR hxa.out] at hrg hstep;clear hxa
    by_cases hb:i<ys.length
    ·obtain ⟨gb,xb,eb,hgb,hxb,hcb⟩:=hvb.out i hb
     subst eb;have hcb:=aE hbr hcb;have hlx:=hlb.out xb (List.mem_of_getElem? hxb.out);unfold Wh.lim at hlx
     have hsx:-9999≤s*xb∧s*xb≤9999:=by rcases hs with rfl | rfl <;> omega
     rw [Wh.cR hxb.out] at hrg hstep;generalize hsb:s*xb=sb at *;clear hxb hlx
     by_cases hx0:c+xa+sb<0
     ·skip
      have hS:=hstep.out (c+xa+sb+10000) (-1) ⟨by omega,by omega⟩ (by omega) (by intro h1;first | omega | (rcases hs with h | h <;> omega)) (by intro h1;first | omega | (rcases hs with h | h <;> omega));have hS:=wM hS;have hO:=wM (hst.out (c+xa+sb+10000));clear hstep hst;go_wp2
      go_roundw
      case rel=>exact ⟨i+1,_,_,by omega,by go_num,by go_num,hO.out.1,hS.out,xi.out.setCell (wQ _) _⟩
      case measure=>simp [intOf];omega
     by_cases hx1:10000≤c+xa+sb
     ·skip
      have hS:=hstep.out (c+xa+sb - 10000) (1) ⟨by omega,by omega⟩ (by omega) (by intro h1;first | omega | (rcases hs with h | h <;> omega)) (by intro h1;first | omega | (rcases hs with h | h <;> omega));have hS:=wM hS;have hO:=wM (hst.out (c+xa+sb - 10000));clear hstep hst;go_wp2
      go_roundw
      case rel=>exact ⟨i+1,_,_,by omega,by go_num,by go_num,hO.out.1,hS.out,xi.out.setCell (wQ _) _⟩
      case measure=>simp [intOf];omega
     skip
     have hS:=hstep.out (c+xa+sb) (0) ⟨by omega,by omega⟩ (by omega) (by intro h1;first | omega | (rcases hs with h | h <;> omega)) (by intro h1;first | omega | (rcases hs with h | h <;> omega));have hS:=wM hS;have hO:=wM (hst.out (c+xa+sb));clear hstep hst;go_wp2
     go_roundw
     case rel=>exact ⟨i+1,_,_,by omega,by go_num,by go_num,hO.out.1,hS.out,xi.out.setCell (wQ _) _⟩
     case measure=>simp [intOf];omega
    rw [Wh.cQ (l:=ys) (by omega),Int.mul_zero] at hrg hstep
    exfalso;omega
   rw [Wh.cQ (by omega)] at hrg hstep
   by_cases hb:i<ys.length
   ·obtain ⟨gb,xb,eb,hgb,hxb,hcb⟩:=hvb.out i hb
    subst eb;have hcb:=aE hbr hcb;have hlx:=hlb.out xb (List.mem_of_getElem? hxb.out);unfold Wh.lim at hlx
    have hsx:-9999≤s*xb∧s*xb≤9999:=by rcases hs with rfl | rfl <;> omega
    rw [Wh.cR hxb.out] at hrg hstep;generalize hsb:s*xb=sb at *;clear hxb hlx
    by_cases hx0:c+sb<0
    ·skip
     have hS:=hstep.out (c+sb+10000) (-1) ⟨by omega,by omega⟩ (by omega) (by intro h1;first | omega | (rcases hs with h | h <;> omega)) (by intro h1;first | omega | (rcases hs with h | h <;> omega));have hS:=wM hS;have hO:=wM (hst.out (c+sb+10000));clear hstep hst;go_wp2
     go_roundw
     case rel=>exact ⟨i+1,_,_,by omega,by go_num,by go_num,hO.out.1,hS.out,xi.out.setCell (wQ _) _⟩
     case measure=>simp [intOf];omega
    by_cases hx1:10000≤c+sb
    ·skip
     have hS:=hstep.out (c+sb - 10000) (1) ⟨by omega,by omega⟩ (by omega) (by intro h1;first | omega | (rcases hs with h | h <;> omega)) (by intro h1;first | omega | (rcases hs with h | h <;> omega));have hS:=wM hS;have hO:=wM (hst.out (c+sb - 10000));clear hstep hst;go_wp2
     go_roundw
     case rel=>exact ⟨i+1,_,_,by omega,by go_num,by go_num,hO.out.1,hS.out,xi.out.setCell (wQ _) _⟩
     case measure=>simp [intOf];omega
    skip
    have hS:=hstep.out (c+sb) (0) ⟨by omega,by omega⟩ (by omega) (by intro h1;first | omega | (rcases hs with h | h <;> omega)) (by intro h1;first | omega | (rcases hs with h | h <;> omega));have hS:=wM hS;have hO:=wM (hst.out (c+sb));clear hstep hst;go_wp2
    go_roundw
    case rel=>exact ⟨i+1,_,_,by omega,by go_num,by go_num,hO.out.1,hS.out,xi.out.setCell (wQ _) _⟩
    case measure=>simp [intOf];omega
   rw [Wh.cQ (l:=ys) (by omega),Int.mul_zero] at hrg hstep
   by_cases hx0:c<0
   ·skip
    have hS:=hstep.out (c+10000) (-1) ⟨by omega,by omega⟩ (by omega) (by intro h1;first | omega | (rcases hs with h | h <;> omega)) (by intro h1;first | omega | (rcases hs with h | h <;> omega));have hS:=wM hS;have hO:=wM (hst.out (c+10000));clear hstep hst;go_wp2
    go_roundw
    case rel=>exact ⟨i+1,_,_,by omega,by go_num,by go_num,hO.out.1,hS.out,xi.out.setCell (wQ _) _⟩
    case measure=>simp [intOf];omega
   by_cases hx1:10000≤c
   ·exfalso;omega
   skip
   have hS:=hstep.out (c) (0) ⟨by omega,by omega⟩ (by omega) (by intro h1;first | omega | (rcases hs with h | h <;> omega)) (by intro h1;first | omega | (rcases hs with h | h <;> omega));have hS:=wM hS;have hO:=wM (hst.out (c));clear hstep hst;go_wp2
   go_roundw
   case rel=>exact ⟨i+1,_,_,by omega,by go_num,by go_num,hO.out.1,hS.out,xi.out.setCell (wQ _) _⟩
   case measure=>simp [intOf];omega
  obtain rfl:i=ys.length+1:=by omega
  have hf:=hai.fin hs (by omega) (by omega) hnn.out (Wh.sum_lt hs hla.out hlb.out (by omega) (by omega));have hlen:=hai.len;rw [Nat.sub_self] at hown;have hres:Hid (ia wr w.heap.size (.slice (some ⟨w.heap.size,0,none⟩) (ys.length+1) (ys.length+1)) (Wh.val xs+s*Wh.val ys) (xs.length+ys.length+1)):=wM ⟨o,by simpa using hown,hai.ls,hf.2,by omega⟩;clear hown hai hf hlen;go_wp2;go_ret;exact ⟨_,rfl,hres.out,hbr⟩
 obtain ⟨w1,hrun,hown1,hg1⟩:=jk w (xs.length+1) (by omega);rw [show ((xs.length+1:Nat):Int)=(xs.length:Int)+1 by omega] at hrun;have hb1:Below w.heap.size w w1:=b8 hg1 (wQ _) (fun k hk=>by cases hk);clear hg1;go_enter Tryz.func172,Tryz.ntmps172
 go_wp2
 go_loopw [8,9,10,20,46,51] (fun vc _ _ vi _ _ wr=>∃ (i:Nat) (o:List Int) (c:Int),i≤xs.length+1∧vi=.int .i64 i∧vc=.int .i64 c∧aF wr w.heap.size (.slice (some ⟨w.heap.size,0,none⟩) (xs.length+1) (xs.length+1)) (o ++ List.replicate (xs.length+1 - i) 0)∧Wh.eR xs ys s i o c∧Below w.heap.size w wr) (fun _ _ _ vi _ _ _=>xs.length+1 - (intOf vi).toNat)
 case atStart=>exact ⟨0,[],0,by omega,rfl,rfl,by simpa using hown1,Wh.eR.start xs ys s,hb1⟩
 case round=>
 clear hown1 hb1;obtain ⟨i,o,c,hi,rfl,rfl,hown,hai,hbr⟩:=hrel
 by_cases hlt:i<xs.length+1
 ·have hrg:=hai.rng hs hla.out hlb.out
  have hl0:=lr hai.len hi;have hc0:=aF.cellAt hl0.symm hown (ly hai.len hlt);have hf0:wr.frozen? ⟨w.heap.size,i,none⟩=false:=eV hl0 hown i
  have hst:=wM fun x=>aF.set hl0.symm hown x (mG hai.len hlt x)
  have hstep:=wM fun x c' h1 h2 h3 h4=>hai.step (x:=x) (c':=c') h1 h2 h3 h4
  have BE:=hbr.size;have xi:=wM hbr;clear hown hl0 hai
  by_cases ha:i<xs.length
  ·obtain ⟨ga,xa,ea,hga,hxa,hca⟩:=hva.out i ha
   subst ea;have hca:=aE hbr hca;rw [Wh.cR hxa.out] at hrg hstep;clear hxa
   by_cases hb:i<ys.length
   ·obtain ⟨gb,xb,eb,hgb,hxb,hcb⟩:=hvb.out i hb
    subst eb;have hcb:=aE hbr hcb;have hlx:=hlb.out xb (List.mem_of_getElem? hxb.out);unfold Wh.lim at hlx
    have hsx:-9999≤s*xb∧s*xb≤9999:=by rcases hs with rfl | rfl <;> omega
    rw [Wh.cR hxb.out] at hrg hstep;generalize hsb:s*xb=sb at *;clear hxb hlx
    by_cases hx0:c+xa+sb<0
    ·skip
     have hS:=hstep.out (c+xa+sb+10000) (-1) ⟨by omega,by omega⟩ (by omega) (by intro h1;first | omega | (rcases hs with h | h <;> omega)) (by intro h1;first | omega | (rcases hs with h | h <;> omega));have hS:=wM hS;have hO:=wM (hst.out (c+xa+sb+10000));clear hstep hst;go_wp2
     go_roundw
     case rel=>exact ⟨i+1,_,_,by omega,by go_num,by go_num,hO.out.1,hS.out,xi.out.setCell (wQ _) _⟩
     case measure=>simp [intOf];omega
    by_cases hx1:10000≤c+xa+sb
    ·skip
     have hS:=hstep.out (c+xa+sb - 10000) (1) ⟨by omega,by omega⟩ (by omega) (by intro h1;first | omega | (rcases hs with h | h <;> omega)) (by intro h1;first | omega | (rcases hs with h | h <;> omega));have hS:=wM hS;have hO:=wM (hst.out (c+xa+sb - 10000));clear hstep hst;go_wp2
     go_roundw
     case rel=>exact ⟨i+1,_,_,by omega,by go_num,by go_num,hO.out.1,hS.out,xi.out.setCell (wQ _) _⟩
     case measure=>simp [intOf];omega
    skip
    have hS:=hstep.out (c+xa+sb) (0) ⟨by omega,by omega⟩ (by omega) (by intro h1;first | omega | (rcases hs with h | h <;> omega)) (by intro h1;first | omega | (rcases hs with h | h <;> omega));have hS:=wM hS;have hO:=wM (hst.out (c+xa+sb));clear hstep hst;go_wp2
    go_roundw
    case rel=>exact ⟨i+1,_,_,by omega,by go_num,by go_num,hO.out.1,hS.out,xi.out.setCell (wQ _) _⟩
    case measure=>simp [intOf];omega
   rw [Wh.cQ (l:=ys) (by omega),Int.mul_zero] at hrg hstep
   by_cases hx0:c+xa<0
   ·skip
    have hS:=hstep.out (c+xa+10000) (-1) ⟨by omega,by omega⟩ (by omega) (by intro h1;first | omega | (rcases hs with h | h <;> omega)) (by intro h1;first | omega | (rcases hs with h | h <;> omega));have hS:=wM hS;have hO:=wM (hst.out (c+xa+10000));clear hstep hst;go_wp2
    go_roundw
    case rel=>exact ⟨i+1,_,_,by omega,by go_num,by go_num,hO.out.1,hS.out,xi.out.setCell (wQ _) _⟩
    case measure=>simp [intOf];omega
   by_cases hx1:10000≤c+xa
   ·skip
    have hS:=hstep.out (c+xa - 10000) (1) ⟨by omega,by omega⟩ (by omega) (by intro h1;first | omega | (rcases hs with h | h <;> omega)) (by intro h1;first | omega | (rcases hs with h | h <;> omega));have hS:=wM hS;have hO:=wM (hst.out (c+xa - 10000));clear hstep hst;go_wp2
    go_roundw
    case rel=>exact ⟨i+1,_,_,by omega,by go_num,by go_num,hO.out.1,hS.out,xi.out.setCell (wQ _) _⟩
    case measure=>simp [intOf];omega
   skip
   have hS:=hstep.out (c+xa) (0) ⟨by omega,by omega⟩ (by omega) (by intro h1;first | omega | (rcases hs with h | h <;> omega)) (by intro h1;first | omega | (rcases hs with h | h <;> omega));have hS:=wM hS;have hO:=wM (hst.out (c+xa));clear hstep hst;go_wp2
   go_roundw
   case rel=>exact ⟨i+1,_,_,by omega,by go_num,by go_num,hO.out.1,hS.out,xi.out.setCell (wQ _) _⟩
   case measure=>simp [intOf];omega
  rw [Wh.cQ (by omega)] at hrg hstep
  by_cases hb:i<ys.length
  ·obtain ⟨gb,xb,eb,hgb,hxb,hcb⟩:=hvb.out i hb
   subst eb;have hcb:=aE hbr hcb;have hlx:=hlb.out xb (List.mem_of_getElem? hxb.out);unfold Wh.lim at hlx
   have hsx:-9999≤s*xb∧s*xb≤9999:=by rcases hs with rfl | rfl <;> omega
   rw [Wh.cR hxb.out] at hrg hstep;generalize hsb:s*xb=sb at *;clear hxb hlx
   exfalso;omega
  rw [Wh.cQ (l:=ys) (by omega),Int.mul_zero] at hrg hstep
  by_cases hx0:c<0
  ·skip
   have hS:=hstep.out (c+10000) (-1) ⟨by omega,by omega⟩ (by omega) (by intro h1;first | omega | (rcases hs with h | h <;> omega)) (by intro h1;first | omega | (rcases hs with h | h <;> omega));have hS:=wM hS;have hO:=wM (hst.out (c+10000));clear hstep hst;go_wp2
   go_roundw
   case rel=>exact ⟨i+1,_,_,by omega,by go_num,by go_num,hO.out.1,hS.out,xi.out.setCell (wQ _) _⟩
   case measure=>simp [intOf];omega
  by_cases hx1:10000≤c
  ·exfalso;omega
  skip
  have hS:=hstep.out (c) (0) ⟨by omega,by omega⟩ (by omega) (by intro h1;first | omega | (rcases hs with h | h <;> omega)) (by intro h1;first | omega | (rcases hs with h | h <;> omega));have hS:=wM hS;have hO:=wM (hst.out (c));clear hstep hst;go_wp2
  go_roundw
  case rel=>exact ⟨i+1,_,_,by omega,by go_num,by go_num,hO.out.1,hS.out,xi.out.setCell (wQ _) _⟩
  case measure=>simp [intOf];omega
 obtain rfl:i=xs.length+1:=by omega
 have hf:=hai.fin hs (by omega) (by omega) hnn.out (Wh.sum_lt hs hla.out hlb.out (by omega) (by omega));have hlen:=hai.len;rw [Nat.sub_self] at hown;have hres:Hid (ia wr w.heap.size (.slice (some ⟨w.heap.size,0,none⟩) (xs.length+1) (xs.length+1)) (Wh.val xs+s*Wh.val ys) (xs.length+ys.length+1)):=wM ⟨o,by simpa using hown,hai.ls,hf.2,by omega⟩;clear hown hai hf hlen;go_wp2;go_ret;exact ⟨_,rfl,hres.out,hbr⟩
theorem mi (p k:Int) (w:World) (p1:0≤p) (p2:p≤1000) (k1:0≤k) (k2:k≤5) :
  Calls Tryz.prog 76 #[.int .i64 p,.int .i64 k] w fun e w'=>e=.returned (.int .i64 (M.ch p k.toNat))∧w=w':=by
 go_enter Tryz.func76,Tryz.ntmps76
 go_wp2
 go_loop [5,7] (fun vo vi=>∃ j:Nat,(j:Int)≤k∧vi=.int .i64 j∧vo=.int .i64 (M.ch p j)) (fun _ vi=>(k - intOf vi).toNat)
 case atStart=>exact ⟨0,by omega,rfl,rfl⟩
 case round=>
 obtain ⟨j,hj,rfl,rfl⟩:=hrel
 by_cases hlt:(j:Int)<k
 ·have hb:=M.rC p1 p2 (k:=j) (by omega)
  have hm:=M.ge hb.1 hb.2 p1 p2;go_wp2
  go_round
  case rel=>exact ⟨j+1,by omega,by go_num,rfl⟩
  case measure=>simp [intOf];omega
 have hjk:k.toNat=j:=by omega
 have hjk:=wM hjk;go_wp2;go_ret;exact ⟨iD (by first | rfl | rw [hjk.out]),rfl⟩
noncomputable def fc (n d:Int):Bool:=M.ins d 1 1000000000 && M.ins n (-1000000000) 1000000000 && (M.gcd n d == 1)
theorem eg (n d:Int) (w:World) :
  Calls Tryz.prog 121 #[.agg #[.int .i64 n,.int .i64 d]] w fun e w'=>e=.returned (.bool (fc n d))∧Below w.heap.size w w':=by
 unfold fc
 cases h1:M.ins d 1 1000000000
 ·go_enter Tryz.func121,Tryz.ntmps121
  go_wp2_with (go_at_call 56;refine (cH _ _ _ _).mono ?_;rintro e w' ⟨rfl,rfl⟩)
  go_ret;exact ⟨dJ (by simp),(by repeat (first | exact wP _ _ | refine aQ ?_ _ | refine aS ?_ (by assumption) | refine Below.drew ?_ | refine wO ?_ (by first | exact wQ _ | exact Nat.le_add_right _ _ | (simp <;> omega)) _ | refine aM ?_ _))⟩
 obtain ⟨d1,d2⟩:=M.es h1
 cases h2:M.ins n (-1000000000) 1000000000
 ·go_enter Tryz.func121,Tryz.ntmps121
  go_wp2_with (go_at_call 56;refine (cH _ _ _ _).mono ?_;rintro e w' ⟨rfl,rfl⟩)
  go_ret;exact ⟨dJ (by simp),(by repeat (first | exact wP _ _ | refine aQ ?_ _ | refine aS ?_ (by assumption) | refine Below.drew ?_ | refine wO ?_ (by first | exact wQ _ | exact Nat.le_add_right _ _ | (simp <;> omega)) _ | refine aM ?_ _))⟩
 obtain ⟨n1,n2⟩:=M.es h2;go_enter Tryz.func121,Tryz.ntmps121
 go_wp2_with (first | (go_at_call 56;refine (cH _ _ _ _).mono ?_;rintro e w' ⟨rfl,rfl⟩) | (go_at_call 114;refine (i8 _ _ _ (by omega) (by omega) (by omega) (by omega)).mono ?_;rintro e w' ⟨rfl,mq,rfl⟩))
 go_ret;exact ⟨dJ (by simp),(by repeat (first | exact wP _ _ | refine aQ ?_ _ | refine aS ?_ (by assumption) | refine Below.drew ?_ | refine wO ?_ (by first | exact wQ _ | exact Nat.le_add_right _ _ | (simp <;> omega)) _ | refine aM ?_ _))⟩
theorem de {P:Program} {f:FuncId} {args:Array Value} {w:World} {n:Nat} {v:Value} (h:Calls P f args (w.drewN n) fun e w'=>e=.returned v∧w.drewN n=w') :
  Calls P f args (w.drewN n) fun e w''=>e=.returned v∧∃ m,w''=w.drewN m:=h.mono fun _ _ ⟨he,hm⟩=>⟨he,n,hm.symm⟩
theorem dH {P:Program} {f:FuncId} {args:Array Value} {w:World} {a n:Nat} {v:Value} (h:Calls P f args (w.drewN (a+n)) fun e w'=>e=.returned v∧w.drewN (a+n)=w') :
  Calls P f args (w.drewN (a+n)) fun e w''=>e=.returned v∧∃ m,w''=w.drewN (a+m):=h.mono fun _ _ ⟨he,hm⟩=>⟨he,n,hm.symm⟩
theorem lV (n d:Int) (w:World) :
  Calls Tryz.prog 132 #[.agg #[.int .i64 n,.int .i64 d]] w fun e w'=>e=.returned (.bool (fc n d))∧Below w.heap.size w w':=by
 unfold fc
 have E1:=fun w=>dE d 1 1000000000 w
 have E2:=fun w=>dE n (-1000000000) 1000000000 w
 have hgg:M.gcd n.natAbs d.natAbs=M.gcd n d:=by simp [M.gcd,Int.gcd]
 cases h1:M.ins d 1 1000000000 <;> simp only [h1] at E1 <;> have E1:=wM E1
 ·have E2:=wM E2
  go_enter Tryz.func132,Tryz.ntmps132
  go_wp2
  go_quiet ((go_at_call 78;first | (with_reducible exact de (E1.out _)) | (with_reducible exact dH (E1.out _)) | (with_reducible exact de (E2.out _)) | (with_reducible exact dH (E2.out _))))
  go_wp2;go_ret;exact ⟨dJ (by simp),(by repeat (first | exact wP _ _ | refine aQ ?_ _ | refine aS ?_ (by assumption) | refine Below.drew ?_ | refine wO ?_ (by first | exact wQ _ | exact Nat.le_add_right _ _ | (simp <;> omega)) _ | refine aM ?_ _))⟩
 obtain ⟨d1,d2⟩:=M.es h1
 cases h2:M.ins n (-1000000000) 1000000000 <;> simp only [h2] at E2 <;> have E2:=wM E2
 ·go_enter Tryz.func132,Tryz.ntmps132
  go_wp2
  go_quiet ((go_at_call 78;first | (with_reducible exact de (E1.out _)) | (with_reducible exact dH (E1.out _)) | (with_reducible exact de (E2.out _)) | (with_reducible exact dH (E2.out _))))
  go_wp2;go_ret;exact ⟨dJ (by simp),(by repeat (first | exact wP _ _ | refine aQ ?_ _ | refine aS ?_ (by assumption) | refine Below.drew ?_ | refine wO ?_ (by first | exact wQ _ | exact Nat.le_add_right _ _ | (simp <;> omega)) _ | refine aM ?_ _))⟩
 obtain ⟨n1,n2⟩:=M.es h2
 have hd:(d.natAbs:Int)=d:=by omega
 rw [hd] at hgg;have hgg:=wM hgg;go_enter Tryz.func132,Tryz.ntmps132
 go_wp2
 go_quiet ((first | (go_at_call 78;first | (with_reducible exact de (E1.out _)) | (with_reducible exact dH (E1.out _)) | (with_reducible exact de (E2.out _)) | (with_reducible exact dH (E2.out _))) | (go_at_call 131;first | exact de (cm _ _ (by omega) (by omega)) | exact dH (cm _ _ (by omega) (by omega))) | (go_at_call 130;first | exact de (co _ _ _ (by omega) (by omega) (by omega) (by omega)) | exact dH (co _ _ _ (by omega) (by omega) (by omega) (by omega)))))
 go_wp2;go_ret;exact ⟨dJ (by simp [hgg.out]),(by repeat (first | exact wP _ _ | refine aQ ?_ _ | refine aS ?_ (by assumption) | refine Below.drew ?_ | refine wO ?_ (by first | exact wQ _ | exact Nat.le_add_right _ _ | (simp <;> omega)) _ | refine aM ?_ _))⟩
theorem li (x:Int) (w:World):Calls Tryz.prog 202 #[.int .i64 x] w fun e w'=>e=.returned (.bool false)∧w=w':=by
 go_enter Tryz.func202,Tryz.ntmps202
 go_wp2;go_ret;exact ⟨by simp,rfl⟩
theorem qX (x y:Int) (w:World):Calls Tryz.prog 195 #[.int .i64 x,.int .i64 y] w fun e w'=>e=.returned (.int .i64 (Wh.x8 x y))∧w=w':=by
 unfold Wh.x8
 by_cases h1:x<y
 ·go_enter Tryz.func195,Tryz.ntmps195
  go_wp2_with (go_at_call 202;refine (li _ _).mono ?_;rintro e w' ⟨rfl,rfl⟩)
  go_ret;exact ⟨by simp [h1],rfl⟩
 by_cases h2:y<x
 all_goals
  go_enter Tryz.func195,Tryz.ntmps195
  go_wp2_with (go_at_call 202;refine (li _ _).mono ?_;rintro e w' ⟨rfl,rfl⟩)
  go_ret;exact ⟨by simp [h1,h2],rfl⟩
namespace Wh
theorem tQ {m n:Nat} (h:(a_ m).length≠(a_ n).length):x8 ((a_ m).length:Int) ((a_ n).length:Int)=x8 (m:Int) (n:Int):=by
 by_cases h':(a_ m).length<(a_ n).length
 ·have:=iw h'
  rw [fM (by omega),fM (by omega)]
 have:=iw (m:=n) (n:=m) (by omega);rw [ke (by omega),ke (by omega)]
end Wh
theorem dA (m n:Nat) (b1 b2:Bool) (va vb:Value) (w:World) (ba bb:Nat) (hoa:aF w ba va (Wh.a_ m)) (x5:aF w bb vb (Wh.a_ n)) (hl1:(Wh.a_ m).length≤100000) (hl2:(Wh.a_ n).length≤100000) :
  Calls Tryz.prog 173 #[.agg #[.bool b1,va],.agg #[.bool b2,vb]] w fun e w'=>e=.returned (.int .i64 (Wh.x8 (m:Int) (n:Int)))∧Below w.heap.size w w':=by
 obtain ⟨aa,i_,rfl,hma,hva⟩:=hoa.seen;obtain ⟨ab,s_,rfl,hmb,hvb⟩:=x5.seen;have hva:=wM hva;have hvb:=wM hvb;have hla:=wM (Wh.bC m);have hlb:=wM (Wh.bC n);have hv1:=wM (Wh.bM m);have hv2:=wM (Wh.bM n);clear hma hmb hoa x5;have bx:=(am.new w (.bool b1) (.slice aa (Wh.a_ m).length i_) 125).alloc (.cells #[.bool b2,.slice ab (Wh.a_ n).length s_] 125);have bz:=am.new2 w (.cells #[.bool b1,.slice aa (Wh.a_ m).length i_] 125) (.bool b2) (.slice ab (Wh.a_ n).length s_) 125
 by_cases hne:(Wh.a_ m).length=(Wh.a_ n).length
 ·generalize Wh.a_ m=xs at *
  generalize Wh.a_ n=ys at *;generalize hxl:xs.length=L at *;have hyl:=hne.symm;have Lq:=wM hyl;rw [←hne] at bx bz hl2 hvb ⊢;clear hne hyl;have hyl:Hid (ys.length=L):=wM Lq.out;have hxl:=wM hxl;go_enter Tryz.func173,Tryz.ntmps173
  go_wp2
  go_loopw [5] (fun vi wr=>∃ k:Nat,k≤L∧vi=.int .i64 ((k:Int) - 1)∧(∀ q:Nat,k≤q→q<L→Wh.nth xs q=Wh.nth ys q)∧Hid (am wr w.heap.size (.bool b1) (.slice aa L i_))∧Hid (am wr (w.heap.size+1) (.bool b2) (.slice ab L s_))∧Below w.heap.size w wr) (fun vi _=>(intOf vi+1).toNat)
  case atStart=>exact ⟨L,wQ _,rfl,fun q h1 h2=>by omega,wM bx,wM bz,(by repeat (first | exact wP _ _ | refine aQ ?_ _ | refine aS ?_ (by assumption) | refine Below.drew ?_ | refine wO ?_ (by first | exact wQ _ | exact Nat.le_add_right _ _ | (simp <;> omega)) _ | refine aM ?_ _))⟩
  case round=>
  clear bx bz;obtain ⟨k,hk,rfl,heq,yC,Aw,hbr⟩:=hrel;have heq:=wM heq
  cases k with
  | zero=>
   have hz:Hid (Wh.x8 (m:Int) (n:Int)=0):=wM (by
    rw [←hv1.out,←hv2.out]
    exact Wh.cmp_eq (n:=L) (by rw [hxl.out];exact wQ _) (by rw [hyl.out];exact wQ _) fun q h=>heq.out q (Nat.zero_le _) h)
   go_wp2;go_ret;exact ⟨by rw [hz.out] <;> rfl,hbr⟩
  | succ j=>
  obtain ⟨ga,x,ea,hga,hxa,hca⟩:=hva.out j (by omega);obtain ⟨gb,y,eb,hgb,hxb,hcb⟩:=hvb.out j (by omega);subst ea eb;have hca:=aE hbr hca;have hcb:=aE hbr hcb;have d1:=yC.out.c1;have d2:=Aw.out.c1;have hnx:=wM (Wh.cR hxa.out);have hny:=wM (Wh.cR hxb.out)
  by_cases hxy:x=y
  ·subst hxy
   have heq2:Hid (∀ q:Nat,j≤q→q<L→Wh.nth xs q=Wh.nth ys q):=wM fun q h1 h2=>by
    by_cases hq:q=j
    ·subst hq;rw [hnx.out,hny.out]
    exact heq.out q (by omega) h2
   go_wp2
   go_quiet (fail)
   go_wp2
   go_roundw
   case rel=>exact ⟨j,by omega,by go_num,heq2.out,wM (yC.out.keep (aM (wP _ _) _)),wM (Aw.out.keep (aM (wP _ _) _)),aM hbr _⟩
   case measure=>first | (simp [intOf];done) | (simp [intOf];omega)
  have hz:Hid (Wh.x8 (m:Int) (n:Int)=Wh.x8 x y):=wM (by
   rw [←hv1.out,←hv2.out]
   have l1:xs.length≤L:=by rw [hxl.out];exact wQ _
   have l2:ys.length≤L:=by rw [hyl.out];exact wQ _
   by_cases hlt:x<y
   ·rw [Wh.fM hlt]
    exact Wh.qZ hla.out hlb.out l1 l2 (i:=j) (by omega) (fun q h1 h2=>heq.out q (by omega) h2) (by rw [hnx.out,hny.out];exact hlt)
   rw [Wh.ke (x:=x) (y:=y) (by omega)]
   exact Wh.qY hla.out hlb.out l1 l2 (i:=j) (by omega) (fun q h1 h2=>heq.out q (by omega) h2) (by rw [hnx.out,hny.out];omega))
  have PC:=fun W=>qX x y W
  generalize Wh.x8 x y=z at *;have PC:=wM PC;go_wp2
  go_quiet (fail)
  go_wp2
  go_quiet ((go_at_call 195;first | (with_reducible exact de (PC.out _)) | (with_reducible exact dH (PC.out _))))
  go_wp2;go_ret;exact ⟨by rw [hz.out] <;> rfl,aM (aM hbr _) _⟩
 have PC:=fun W=>qX (Wh.a_ m).length (Wh.a_ n).length W
 rw [Wh.tQ hne] at PC;generalize Wh.x8 (m:Int) (n:Int)=z at *;generalize (Wh.a_ n).length=l2,(Wh.a_ m).length=l1 at *;have PC:=wM PC;clear hva hvb hla hlb hv1 hv2;go_enter Tryz.func173,Tryz.ntmps173
 go_wp2_with (go_at_call 195;(with_reducible refine (PC.out _).mono ?_);rintro e w1 ⟨rfl,rfl⟩)
 go_ret;exact ⟨rfl,(by repeat (first | exact wP _ _ | refine aQ ?_ _ | refine aS ?_ (by assumption) | refine Below.drew ?_ | refine wO ?_ (by first | exact wQ _ | exact Nat.le_add_right _ _ | (simp <;> omega)) _ | refine aM ?_ _))⟩
theorem eo (z y:Int) (n:Nat) (neg:Bool) (v:Value) (w:World) (base:Nat) (ho:ia w base v y n) (hn:n≤1000000) (hz:Wh.yJ neg y=z) :
  Calls Tryz.prog 171 #[.bool neg,v] w fun e w'=>∃ sl,e=.returned (.agg #[.bool (decide (z<0)),sl])∧ak w' w.heap.size sl z∧Below w.heap.size w w':=by
 obtain ⟨o,h1,h2,h3,h4⟩:=ho;exact ep z neg o v w base h1 h2 (by omega) (by rw [h3];exact hz)
theorem ae {W:World} {p:Addr} {v:Value} (h:W.cell? p=some v):(W.drew).cell? p=some v:=h
theorem am.store {w:World} {b:Nat} {u v:Value} (h:am w b u v) (x y:Value):am ((w.setCell ⟨b,0,none⟩ x).setCell ⟨b,1,none⟩ y) b x y:=by
 obtain ⟨h1,h2,h3,h4,h5⟩:=h;exact ⟨by simp [go_sem, *],by simp [go_sem, *],by simp [go_sem, *],by simp [go_sem, *],by simp [go_sem, *]⟩
theorem am.other {w:World} {b c:Nat} {u v:Value} (h:am w b u v) (hn:b≠c) (x y:Value):am ((w.setCell ⟨c,0,none⟩ x).setCell ⟨c,1,none⟩ y) b u v:=
 have hg:=cF w c x y
 have hn':some b≠some c:=by simpa using hn
 ⟨hg.cell h.c0 hn',hg.cell h.c1 hn',(Gr.frozen hg h.size hn').trans h.f0,(Gr.frozen hg h.size hn').trans h.f1,Gr.iE hg h.size⟩
theorem am.drew {w:World} {b:Nat} {u v:Value} (h:am w b u v):am w.drew b u v:=⟨h.c0,h.c1,h.f0,h.f1,h.size⟩
namespace Wh
theorem add_same {a b:Int} {s:Bool} (ha:decide (a<0)=s) (hb:decide (b<0)=s):yJ s ((a.natAbs:Int)+1*(b.natAbs:Int))=a+b:=by
 cases s
 ·simp only [decide_eq_false_iff_not] at ha hb;simp only [yJ,Bool.false_eq_true,if_false];omega
 simp only [decide_eq_true_eq] at ha hb;simp only [yJ,if_true];omega
theorem dT {a b:Int} {s:Bool} (ha:decide (a<0)=s) (hb:decide (b<0)=!s):yJ s ((a.natAbs:Int)+-1*(b.natAbs:Int))=a+b:=by
 cases s
 ·simp only [decide_eq_false_iff_not,Bool.not_false,decide_eq_true_eq] at ha hb;simp only [yJ,Bool.false_eq_true,if_false];omega
 simp only [decide_eq_true_eq,Bool.not_true,decide_eq_false_iff_not] at ha hb;simp only [yJ,if_true];omega
end Wh
theorem fB (a b:Int) (va vb:Value) (w:World) (ba bb:Nat) (hoa:ak w ba va a) (x5:ak w bb vb b) (hl1:(Wh.a_ a.natAbs).length≤10000) (hl2:(Wh.a_ b.natAbs).length≤10000) :
  Calls Tryz.prog 140 #[.agg #[.bool (decide (a<0)),va],.agg #[.bool (decide (b<0)),vb]] w fun e w'=>∃ sl,e=.returned (.agg #[.bool (decide (a+b<0)),sl])∧ak w' w.heap.size sl (a+b)∧Below w.heap.size w w':=by
 obtain ⟨aa,i_,rfl,-,-⟩:=aF.view hoa;obtain ⟨ab,s_,rfl,-,-⟩:=aF.view x5
 have PA:=fun s hs h0 W h1 h2=>ie (Wh.a_ a.natAbs) (Wh.a_ b.natAbs) s (.slice aa (Wh.a_ a.natAbs).length i_) (.slice ab (Wh.a_ b.natAbs).length s_) W ba bb hs h1 h2 (Wh.bC _) (Wh.bC _) h0 (by omega) (by omega)
 rw [Wh.bM,Wh.bM] at PA
 have PT:=fun s y (h:Wh.yJ s y=a+b) W v base ho=>eo (a+b) y ((Wh.a_ a.natAbs).length+(Wh.a_ b.natAbs).length+1) s v W base ho (by omega) h
 have zI:Hid (∀ W,Below w.heap.size w W→aF W ba (.slice aa (Wh.a_ a.natAbs).length i_) (Wh.a_ a.natAbs)):=wM fun W h=>aF.below hoa h
 have z6:Hid (∀ W,Below w.heap.size w W→aF W bb (.slice ab (Wh.a_ b.natAbs).length s_) (Wh.a_ b.natAbs)):=wM fun W h=>aF.below x5 h
 obtain ⟨s1,hs1⟩:∃ s,decide (a<0)=s:=⟨_,rfl⟩
 obtain ⟨s2,hs2⟩:∃ s,decide (b<0)=s:=⟨_,rfl⟩
 clear hoa x5
 by_cases hss:s1=s2
 ·subst hss
  have PT:=wM (PT s1 _ (Wh.add_same hs1 hs2));have PA:=wM (PA 1 (Or.inl rfl) (by omega));rw [hs1,hs2];clear hs1 hs2;generalize (a.natAbs:Int)+1*(b.natAbs:Int)=y at *;generalize Wh.a_ b.natAbs=ys,Wh.a_ a.natAbs=xs,a+b=z at *;generalize decide (z<0)=s,ys.length=l2,xs.length=l1 at *;have b1:=((am.new w (.bool s1) (.slice aa l1 i_) 125).alloc (.cells #[.bool s1,.slice ab l2 s_] 125)).alloc (.cells #[.bool false,.slice none 0 0] 125);have b2:=(am.new2 w (.cells #[.bool s1,.slice aa l1 i_] 125) (.bool s1) (.slice ab l2 s_) 125).alloc (.cells #[.bool false,.slice none 0 0] 125);have b3:=am.new2 (w.alloc (.cells #[.bool s1,.slice aa l1 i_] 125)) (.cells #[.bool s1,.slice ab l2 s_] 125) (.bool false) (.slice none 0 0) 125;rw [wN] at b3;have hB:=(((wP w.heap.size w).alloc (wQ _) (.cells #[.bool s1,.slice aa l1 i_] 125)).alloc (by rw [wN];omega) (.cells #[.bool s1,.slice ab l2 s_] 125)).alloc (by rw [wN,wN];omega) (.cells #[.bool false,.slice none 0 0] 125);generalize hw3:((w.alloc (.cells #[.bool s1,.slice aa l1 i_] 125)).alloc (.cells #[.bool s1,.slice ab l2 s_] 125)).alloc (.cells #[.bool false,.slice none 0 0] 125)=w3 at *;have e1:=b1.c0;have e2:=b1.c1;have e3:=b2.c0;have e4:=b2.c1;go_enter Tryz.func140,Tryz.ntmps140
  go_wp2
  go_region_held3 (fun W=>W.cell? ⟨w.heap.size,0,none⟩=some (.bool s1)∧W.cell? ⟨w.heap.size,1,none⟩=some (.slice aa l1 i_)∧W.cell? ⟨w.heap.size+1,0,none⟩=some (.bool s1)∧W.cell? ⟨w.heap.size+1,1,none⟩=some (.slice ab l2 s_)) (first | (refine ⟨?_,?_,?_,?_⟩ <;> (first | (with_reducible exact aE (by assumption) (by assumption)) | (with_reducible exact Gr.bG (by assumption)) | (with_reducible refine Gr.bQ (by assumption) ?_;(intro ww;(try simp only [wN,aL,World.heap_drewN,aI] at ww);omega)) | (with_reducible refine Gr.cl (by assumption) ?_ ?_ <;> (intro ww;(try simp only [wN,aL,World.heap_drewN,aI] at ww);omega)) | exact aE (by assumption) (by assumption) | (with_reducible exact bF (by assumption) (by assumption) (by assumption)))) | (go_split_ands;(refine ⟨?_,?_,?_,?_⟩ <;> (first | (with_reducible exact aE (by assumption) (by assumption)) | (with_reducible exact Gr.bG (by assumption)) | (with_reducible refine Gr.bQ (by assumption) ?_;(intro ww;(try simp only [wN,aL,World.heap_drewN,aI] at ww);omega)) | (with_reducible refine Gr.cl (by assumption) ?_ ?_ <;> (intro ww;(try simp only [wN,aL,World.heap_drewN,aI] at ww);omega)) | exact aE (by assumption) (by assumption) | (with_reducible exact bF (by assumption) (by assumption) (by assumption))))) | go_keep) ((first
   | (go_at_call 172;(with_reducible refine (PA.out _ (zI.out _ hB.drew) (z6.out _ hB.drew)).mono ?_);rintro e w4 ⟨v4,rfl,xF,hb4⟩;have B4:=hB.drew.trans (hb4.mono hB.size);have r4:=b3.drew.keep hb4;have yX:=aE hb4 (ae e1);have y_:=aE hb4 (ae e2);have zh:=aE hb4 (ae e3);have AC:=aE hb4 (ae e4);(have z4:w3.heap.size≤w4.heap.size:=hb4.size))
   | (go_at_call 171;(with_reducible refine (PT.out _ _ _ xF).mono ?_);rintro e w5 ⟨vc,rfl,hoc,hbc⟩;obtain ⟨ac,wY,rfl,hmc,xR⟩:=aF.view hoc;have B5:=d_ B4 hbc;have r5:=r4.keep hbc;have c0:=r5.c0;have c1:=r5.c1;have g0:=r5.f0;have g1:=r5.f1;have BS:=aE hbc yX;have CD:=aE hbc y_;have DC:=aE hbc zh;have DM:=aE hbc AC;clear xR hmc)
   | fail "ARMS"))
  all_goals
   have hr:=bn (w:=w) (w.heap.size+1+1) _ (.bool s) (by omega) (Nat.lt_of_lt_of_le b3.size z4) hoc B5;generalize (Wh.a_ z.natAbs).length=n2 at *;go_wp2;exact bodyPost_ret (v:=.agg #[.bool s,.slice ac n2 wY]) (by simp [results,Tryz.results140,go_sem, *]) rfl (⟨_,rfl,hr.1,hr.2⟩)
 have PA':=fun s hs h0 W h1 h2=>ie (Wh.a_ b.natAbs) (Wh.a_ a.natAbs) s (.slice ab (Wh.a_ b.natAbs).length s_) (.slice aa (Wh.a_ a.natAbs).length i_) W bb ba hs h1 h2 (Wh.bC _) (Wh.bC _) h0 (by omega) (by omega)
 rw [Wh.bM,Wh.bM] at PA'
 have DD:=fun s y (h:Wh.yJ s y=a+b) W v base ho=>eo (a+b) y ((Wh.a_ b.natAbs).length+(Wh.a_ a.natAbs).length+1) s v W base ho (by omega) h
 have hx:(s1=false∧s2=true)∨(s1=true∧s2=false):=by cases s1 <;> cases s2 <;> simp_all
 clear hss
 rcases hx with ⟨rfl,rfl⟩ | ⟨rfl,rfl⟩
 ·skip
  have hd:=Wh.dT (a:=a) (b:=b) hs1 hs2;have hd':=Wh.dT (a:=b) (b:=a) hs2 hs1;rw [Int.add_comm b a] at hd'
  have PM:=fun W h1 h2=>dA a.natAbs b.natAbs false true (.slice aa (Wh.a_ a.natAbs).length i_) (.slice ab (Wh.a_ b.natAbs).length s_) W ba bb h1 h2 (by omega) (by omega)
  rw [hs1,hs2];clear hs1 hs2
  by_cases hlt:a.natAbs<b.natAbs
  ·skip
   have PT:=wM (DD true _ hd');have PA:=wM (PA' (-1) (Or.inr rfl) (by omega));rw [Wh.fM (by omega)] at PM;have PM:=wM PM;clear hlt hd hd';generalize (b.natAbs:Int)+-1*(a.natAbs:Int)=y at *;generalize Wh.a_ b.natAbs=ys,Wh.a_ a.natAbs=xs,a+b=z at *;generalize decide (z<0)=s,ys.length=l2,xs.length=l1 at *;have b1:=((am.new w (.bool false) (.slice aa l1 i_) 125).alloc (.cells #[.bool true,.slice ab l2 s_] 125)).alloc (.cells #[.bool false,.slice none 0 0] 125);have b2:=(am.new2 w (.cells #[.bool false,.slice aa l1 i_] 125) (.bool true) (.slice ab l2 s_) 125).alloc (.cells #[.bool false,.slice none 0 0] 125);have b3:=am.new2 (w.alloc (.cells #[.bool false,.slice aa l1 i_] 125)) (.cells #[.bool true,.slice ab l2 s_] 125) (.bool false) (.slice none 0 0) 125;rw [wN] at b3;have hB:=(((wP w.heap.size w).alloc (wQ _) (.cells #[.bool false,.slice aa l1 i_] 125)).alloc (by rw [wN];omega) (.cells #[.bool true,.slice ab l2 s_] 125)).alloc (by rw [wN,wN];omega) (.cells #[.bool false,.slice none 0 0] 125);generalize hw3:((w.alloc (.cells #[.bool false,.slice aa l1 i_] 125)).alloc (.cells #[.bool true,.slice ab l2 s_] 125)).alloc (.cells #[.bool false,.slice none 0 0] 125)=w3 at *;have i1:=b1.c0;have i2:=b1.c1;have i3:=b2.c0;have i4:=b2.c1;go_enter Tryz.func140,Tryz.ntmps140
   go_wp2_with (go_at_call 173;(with_reducible refine (PM.out _ (zI.out _ hB) (z6.out _ hB)).mono ?_);rintro e wm ⟨rfl,yB⟩;have m1:=b1.keep yB;have m2:=b2.keep yB;have m3:=b3.keep yB;have j1:=m1.c0;have j2:=m1.c1;have j3:=m2.c0;have j4:=m2.c1;have k1:=m1.f0;have k2:=m1.f1;have k3:=m2.f0;have k4:=m2.f1;have Bm:=d_ hB yB)
   have n1:=(m1.store (.bool true) (.slice ab l2 s_)).other (c:=w.heap.size+1) (by omega) (.bool false) (.slice aa l1 i_);have n2:=(m2.other (c:=w.heap.size) (by omega) (.bool true) (.slice ab l2 s_)).store (.bool false) (.slice aa l1 i_);have n3:=(m3.other (c:=w.heap.size) (by omega) (.bool true) (.slice ab l2 s_)).other (c:=w.heap.size+1) (by omega) (.bool false) (.slice aa l1 i_);have Bn:=(((Bm.setCell (p:=⟨w.heap.size,0,none⟩) (wQ _) (.bool true)).setCell (p:=⟨w.heap.size,1,none⟩) (wQ _) (.slice ab l2 s_)).setCell (p:=⟨w.heap.size+1,0,none⟩) (Nat.le_succ _) (.bool false)).setCell (p:=⟨w.heap.size+1,1,none⟩) (Nat.le_succ _) (.slice aa l1 i_);generalize hwn:((((wm.setCell ⟨w.heap.size,0,none⟩ (.bool true)).setCell ⟨w.heap.size,1,none⟩ (.slice ab l2 s_)).setCell ⟨w.heap.size+1,0,none⟩ (.bool false)).setCell ⟨w.heap.size+1,1,none⟩ (.slice aa l1 i_))=wn at *;clear i1 i2 i3 i4 j1 j2 j3 j4 k1 k2 k3 k4 m1 m2 m3 b1 b2 b3 yB;have e1:=n1.c0;have e2:=n1.c1;have e3:=n2.c0;have e4:=n2.c1
   go_region_held3 (fun W=>W.cell? ⟨w.heap.size,0,none⟩=some (.bool true)∧W.cell? ⟨w.heap.size,1,none⟩=some (.slice ab l2 s_)∧W.cell? ⟨w.heap.size+1,0,none⟩=some (.bool false)∧W.cell? ⟨w.heap.size+1,1,none⟩=some (.slice aa l1 i_)) (first | (refine ⟨?_,?_,?_,?_⟩ <;> (first | (with_reducible exact aE (by assumption) (by assumption)) | (with_reducible exact Gr.bG (by assumption)) | (with_reducible refine Gr.bQ (by assumption) ?_;(intro ww;(try simp only [wN,aL,World.heap_drewN,aI] at ww);omega)) | (with_reducible refine Gr.cl (by assumption) ?_ ?_ <;> (intro ww;(try simp only [wN,aL,World.heap_drewN,aI] at ww);omega)) | exact aE (by assumption) (by assumption) | (with_reducible exact bF (by assumption) (by assumption) (by assumption)))) | (go_split_ands;(refine ⟨?_,?_,?_,?_⟩ <;> (first | (with_reducible exact aE (by assumption) (by assumption)) | (with_reducible exact Gr.bG (by assumption)) | (with_reducible refine Gr.bQ (by assumption) ?_;(intro ww;(try simp only [wN,aL,World.heap_drewN,aI] at ww);omega)) | (with_reducible refine Gr.cl (by assumption) ?_ ?_ <;> (intro ww;(try simp only [wN,aL,World.heap_drewN,aI] at ww);omega)) | exact aE (by assumption) (by assumption) | (with_reducible exact bF (by assumption) (by assumption) (by assumption))))) | go_keep) ((first
    | (go_at_call 172;(with_reducible refine (PA.out _ (z6.out _ Bn.drew) (zI.out _ Bn.drew)).mono ?_);rintro e w4 ⟨v4,rfl,xF,hb4⟩;have B4:=Bn.drew.trans (hb4.mono Bn.size);have r4:=n3.drew.keep hb4;have yX:=aE hb4 (ae e1);have y_:=aE hb4 (ae e2);have zh:=aE hb4 (ae e3);have AC:=aE hb4 (ae e4);(have z4:wn.heap.size≤w4.heap.size:=hb4.size))
    | (go_at_call 171;(with_reducible refine (PT.out _ _ _ xF).mono ?_);rintro e w5 ⟨vc,rfl,hoc,hbc⟩;obtain ⟨ac,wY,rfl,hmc,xR⟩:=aF.view hoc;have B5:=d_ B4 hbc;have r5:=r4.keep hbc;have c0:=r5.c0;have c1:=r5.c1;have g0:=r5.f0;have g1:=r5.f1;have BS:=aE hbc yX;have CD:=aE hbc y_;have DC:=aE hbc zh;have DM:=aE hbc AC;clear xR hmc)
    | fail "ARMS"))
   all_goals
    have hr:=bn (w:=w) (w.heap.size+1+1) _ (.bool s) (by omega) (Nat.lt_of_lt_of_le n3.size z4) hoc B5;generalize (Wh.a_ z.natAbs).length=yH at *;go_wp2;exact bodyPost_ret (v:=.agg #[.bool s,.slice ac yH wY]) (by simp [results,Tryz.results140,go_sem, *]) rfl (⟨_,rfl,hr.1,hr.2⟩)
  skip
  have PT:=wM (PT false _ hd);have PA:=wM (PA (-1) (Or.inr rfl) (by omega))
  have hr0:¬ Wh.x8 (a.natAbs:Int) (b.natAbs:Int)<0:=by unfold Wh.x8;rw [if_neg (by omega)];split <;> omega
  generalize Wh.x8 (a.natAbs:Int) (b.natAbs:Int)=rr at *;have PM:=wM PM;clear hlt hd hd';generalize (a.natAbs:Int)+-1*(b.natAbs:Int)=y at *;generalize Wh.a_ b.natAbs=ys,Wh.a_ a.natAbs=xs,a+b=z at *;generalize decide (z<0)=s,ys.length=l2,xs.length=l1 at *;have b1:=((am.new w (.bool false) (.slice aa l1 i_) 125).alloc (.cells #[.bool true,.slice ab l2 s_] 125)).alloc (.cells #[.bool false,.slice none 0 0] 125);have b2:=(am.new2 w (.cells #[.bool false,.slice aa l1 i_] 125) (.bool true) (.slice ab l2 s_) 125).alloc (.cells #[.bool false,.slice none 0 0] 125);have b3:=am.new2 (w.alloc (.cells #[.bool false,.slice aa l1 i_] 125)) (.cells #[.bool true,.slice ab l2 s_] 125) (.bool false) (.slice none 0 0) 125;rw [wN] at b3;have hB:=(((wP w.heap.size w).alloc (wQ _) (.cells #[.bool false,.slice aa l1 i_] 125)).alloc (by rw [wN];omega) (.cells #[.bool true,.slice ab l2 s_] 125)).alloc (by rw [wN,wN];omega) (.cells #[.bool false,.slice none 0 0] 125);generalize hw3:((w.alloc (.cells #[.bool false,.slice aa l1 i_] 125)).alloc (.cells #[.bool true,.slice ab l2 s_] 125)).alloc (.cells #[.bool false,.slice none 0 0] 125)=w3 at *;have i1:=b1.c0;have i2:=b1.c1;have i3:=b2.c0;have i4:=b2.c1;go_enter Tryz.func140,Tryz.ntmps140
  go_wp2_with (go_at_call 173;(with_reducible refine (PM.out _ (zI.out _ hB) (z6.out _ hB)).mono ?_);rintro e wm ⟨rfl,yB⟩;have m1:=b1.keep yB;have m2:=b2.keep yB;have m3:=b3.keep yB;have j1:=m1.c0;have j2:=m1.c1;have j3:=m2.c0;have j4:=m2.c1;have k1:=m1.f0;have k2:=m1.f1;have k3:=m2.f0;have k4:=m2.f1;have Bm:=d_ hB yB)
  have n1:=m1;have n2:=m2;have n3:=m3;have Bn:=Bm;clear i1 i2 i3 i4 j1 j2 j3 j4 k1 k2 k3 k4 m1 m2 m3 b1 b2 b3 yB;have e1:=n1.c0;have e2:=n1.c1;have e3:=n2.c0;have e4:=n2.c1
  go_region_held3 (fun W=>W.cell? ⟨w.heap.size,0,none⟩=some (.bool false)∧W.cell? ⟨w.heap.size,1,none⟩=some (.slice aa l1 i_)∧W.cell? ⟨w.heap.size+1,0,none⟩=some (.bool true)∧W.cell? ⟨w.heap.size+1,1,none⟩=some (.slice ab l2 s_)) (first | (refine ⟨?_,?_,?_,?_⟩ <;> (first | (with_reducible exact aE (by assumption) (by assumption)) | (with_reducible exact Gr.bG (by assumption)) | (with_reducible refine Gr.bQ (by assumption) ?_;(intro ww;(try simp only [wN,aL,World.heap_drewN,aI] at ww);omega)) | (with_reducible refine Gr.cl (by assumption) ?_ ?_ <;> (intro ww;(try simp only [wN,aL,World.heap_drewN,aI] at ww);omega)) | exact aE (by assumption) (by assumption) | (with_reducible exact bF (by assumption) (by assumption) (by assumption)))) | (go_split_ands;(refine ⟨?_,?_,?_,?_⟩ <;> (first | (with_reducible exact aE (by assumption) (by assumption)) | (with_reducible exact Gr.bG (by assumption)) | (with_reducible refine Gr.bQ (by assumption) ?_;(intro ww;(try simp only [wN,aL,World.heap_drewN,aI] at ww);omega)) | (with_reducible refine Gr.cl (by assumption) ?_ ?_ <;> (intro ww;(try simp only [wN,aL,World.heap_drewN,aI] at ww);omega)) | exact aE (by assumption) (by assumption) | (with_reducible exact bF (by assumption) (by assumption) (by assumption))))) | go_keep) ((first
   | (go_at_call 172;(with_reducible refine (PA.out _ (zI.out _ Bn.drew) (z6.out _ Bn.drew)).mono ?_);rintro e w4 ⟨v4,rfl,xF,hb4⟩;have B4:=Bn.drew.trans (hb4.mono Bn.size);have r4:=n3.drew.keep hb4;have yX:=aE hb4 (ae e1);have y_:=aE hb4 (ae e2);have zh:=aE hb4 (ae e3);have AC:=aE hb4 (ae e4);(have z4:wm.heap.size≤w4.heap.size:=hb4.size))
   | (go_at_call 171;(with_reducible refine (PT.out _ _ _ xF).mono ?_);rintro e w5 ⟨vc,rfl,hoc,hbc⟩;obtain ⟨ac,wY,rfl,hmc,xR⟩:=aF.view hoc;have B5:=d_ B4 hbc;have r5:=r4.keep hbc;have c0:=r5.c0;have c1:=r5.c1;have g0:=r5.f0;have g1:=r5.f1;have BS:=aE hbc yX;have CD:=aE hbc y_;have DC:=aE hbc zh;have DM:=aE hbc AC;clear xR hmc)
   | fail "ARMS"))
  all_goals
   have hr:=bn (w:=w) (w.heap.size+1+1) _ (.bool s) (by omega) (Nat.lt_of_lt_of_le n3.size z4) hoc B5;generalize (Wh.a_ z.natAbs).length=yH at *;go_wp2;exact bodyPost_ret (v:=.agg #[.bool s,.slice ac yH wY]) (by simp [results,Tryz.results140,go_sem, *]) rfl (⟨_,rfl,hr.1,hr.2⟩)
 skip
 have hd:=Wh.dT (a:=a) (b:=b) hs1 hs2;have hd':=Wh.dT (a:=b) (b:=a) hs2 hs1;rw [Int.add_comm b a] at hd'
 have PM:=fun W h1 h2=>dA a.natAbs b.natAbs true false (.slice aa (Wh.a_ a.natAbs).length i_) (.slice ab (Wh.a_ b.natAbs).length s_) W ba bb h1 h2 (by omega) (by omega)
 rw [hs1,hs2];clear hs1 hs2
 by_cases hlt:a.natAbs<b.natAbs
 ·skip
  have PT:=wM (DD false _ hd');have PA:=wM (PA' (-1) (Or.inr rfl) (by omega));rw [Wh.fM (by omega)] at PM;have PM:=wM PM;clear hlt hd hd';generalize (b.natAbs:Int)+-1*(a.natAbs:Int)=y at *;generalize Wh.a_ b.natAbs=ys,Wh.a_ a.natAbs=xs,a+b=z at *;generalize decide (z<0)=s,ys.length=l2,xs.length=l1 at *;have b1:=((am.new w (.bool true) (.slice aa l1 i_) 125).alloc (.cells #[.bool false,.slice ab l2 s_] 125)).alloc (.cells #[.bool false,.slice none 0 0] 125);have b2:=(am.new2 w (.cells #[.bool true,.slice aa l1 i_] 125) (.bool false) (.slice ab l2 s_) 125).alloc (.cells #[.bool false,.slice none 0 0] 125);have b3:=am.new2 (w.alloc (.cells #[.bool true,.slice aa l1 i_] 125)) (.cells #[.bool false,.slice ab l2 s_] 125) (.bool false) (.slice none 0 0) 125;rw [wN] at b3;have hB:=(((wP w.heap.size w).alloc (wQ _) (.cells #[.bool true,.slice aa l1 i_] 125)).alloc (by rw [wN];omega) (.cells #[.bool false,.slice ab l2 s_] 125)).alloc (by rw [wN,wN];omega) (.cells #[.bool false,.slice none 0 0] 125);generalize hw3:((w.alloc (.cells #[.bool true,.slice aa l1 i_] 125)).alloc (.cells #[.bool false,.slice ab l2 s_] 125)).alloc (.cells #[.bool false,.slice none 0 0] 125)=w3 at *;have i1:=b1.c0;have i2:=b1.c1;have i3:=b2.c0;have i4:=b2.c1;go_enter Tryz.func140,Tryz.ntmps140
  go_wp2_with (go_at_call 173;(with_reducible refine (PM.out _ (zI.out _ hB) (z6.out _ hB)).mono ?_);rintro e wm ⟨rfl,yB⟩;have m1:=b1.keep yB;have m2:=b2.keep yB;have m3:=b3.keep yB;have j1:=m1.c0;have j2:=m1.c1;have j3:=m2.c0;have j4:=m2.c1;have k1:=m1.f0;have k2:=m1.f1;have k3:=m2.f0;have k4:=m2.f1;have Bm:=d_ hB yB)
  have n1:=(m1.store (.bool false) (.slice ab l2 s_)).other (c:=w.heap.size+1) (by omega) (.bool true) (.slice aa l1 i_);have n2:=(m2.other (c:=w.heap.size) (by omega) (.bool false) (.slice ab l2 s_)).store (.bool true) (.slice aa l1 i_);have n3:=(m3.other (c:=w.heap.size) (by omega) (.bool false) (.slice ab l2 s_)).other (c:=w.heap.size+1) (by omega) (.bool true) (.slice aa l1 i_);have Bn:=(((Bm.setCell (p:=⟨w.heap.size,0,none⟩) (wQ _) (.bool false)).setCell (p:=⟨w.heap.size,1,none⟩) (wQ _) (.slice ab l2 s_)).setCell (p:=⟨w.heap.size+1,0,none⟩) (Nat.le_succ _) (.bool true)).setCell (p:=⟨w.heap.size+1,1,none⟩) (Nat.le_succ _) (.slice aa l1 i_);generalize hwn:((((wm.setCell ⟨w.heap.size,0,none⟩ (.bool false)).setCell ⟨w.heap.size,1,none⟩ (.slice ab l2 s_)).setCell ⟨w.heap.size+1,0,none⟩ (.bool true)).setCell ⟨w.heap.size+1,1,none⟩ (.slice aa l1 i_))=wn at *;clear i1 i2 i3 i4 j1 j2 j3 j4 k1 k2 k3 k4 m1 m2 m3 b1 b2 b3 yB;have e1:=n1.c0;have e2:=n1.c1;have e3:=n2.c0;have e4:=n2.c1
  go_region_held3 (fun W=>W.cell? ⟨w.heap.size,0,none⟩=some (.bool false)∧W.cell? ⟨w.heap.size,1,none⟩=some (.slice ab l2 s_)∧W.cell? ⟨w.heap.size+1,0,none⟩=some (.bool true)∧W.cell? ⟨w.heap.size+1,1,none⟩=some (.slice aa l1 i_)) (first | (refine ⟨?_,?_,?_,?_⟩ <;> (first | (with_reducible exact aE (by assumption) (by assumption)) | (with_reducible exact Gr.bG (by assumption)) | (with_reducible refine Gr.bQ (by assumption) ?_;(intro ww;(try simp only [wN,aL,World.heap_drewN,aI] at ww);omega)) | (with_reducible refine Gr.cl (by assumption) ?_ ?_ <;> (intro ww;(try simp only [wN,aL,World.heap_drewN,aI] at ww);omega)) | exact aE (by assumption) (by assumption) | (with_reducible exact bF (by assumption) (by assumption) (by assumption)))) | (go_split_ands;(refine ⟨?_,?_,?_,?_⟩ <;> (first | (with_reducible exact aE (by assumption) (by assumption)) | (with_reducible exact Gr.bG (by assumption)) | (with_reducible refine Gr.bQ (by assumption) ?_;(intro ww;(try simp only [wN,aL,World.heap_drewN,aI] at ww);omega)) | (with_reducible refine Gr.cl (by assumption) ?_ ?_ <;> (intro ww;(try simp only [wN,aL,World.heap_drewN,aI] at ww);omega)) | exact aE (by assumption) (by assumption) | (with_reducible exact bF (by assumption) (by assumption) (by assumption))))) | go_keep) ((first
   | (go_at_call 172;(with_reducible refine (PA.out _ (z6.out _ Bn.drew) (zI.out _ Bn.drew)).mono ?_);rintro e w4 ⟨v4,rfl,xF,hb4⟩;have B4:=Bn.drew.trans (hb4.mono Bn.size);have r4:=n3.drew.keep hb4;have yX:=aE hb4 (ae e1);have y_:=aE hb4 (ae e2);have zh:=aE hb4 (ae e3);have AC:=aE hb4 (ae e4);(have z4:wn.heap.size≤w4.heap.size:=hb4.size))
   | (go_at_call 171;(with_reducible refine (PT.out _ _ _ xF).mono ?_);rintro e w5 ⟨vc,rfl,hoc,hbc⟩;obtain ⟨ac,wY,rfl,hmc,xR⟩:=aF.view hoc;have B5:=d_ B4 hbc;have r5:=r4.keep hbc;have c0:=r5.c0;have c1:=r5.c1;have g0:=r5.f0;have g1:=r5.f1;have BS:=aE hbc yX;have CD:=aE hbc y_;have DC:=aE hbc zh;have DM:=aE hbc AC;clear xR hmc)
   | fail "ARMS"))
  all_goals
   have hr:=bn (w:=w) (w.heap.size+1+1) _ (.bool s) (by omega) (Nat.lt_of_lt_of_le n3.size z4) hoc B5;generalize (Wh.a_ z.natAbs).length=yH at *;go_wp2;exact bodyPost_ret (v:=.agg #[.bool s,.slice ac yH wY]) (by simp [results,Tryz.results140,go_sem, *]) rfl (⟨_,rfl,hr.1,hr.2⟩)
 skip
 have PT:=wM (PT true _ hd);have PA:=wM (PA (-1) (Or.inr rfl) (by omega))
 have hr0:¬ Wh.x8 (a.natAbs:Int) (b.natAbs:Int)<0:=by unfold Wh.x8;rw [if_neg (by omega)];split <;> omega
 generalize Wh.x8 (a.natAbs:Int) (b.natAbs:Int)=rr at *;have PM:=wM PM;clear hlt hd hd';generalize (a.natAbs:Int)+-1*(b.natAbs:Int)=y at *;generalize Wh.a_ b.natAbs=ys,Wh.a_ a.natAbs=xs,a+b=z at *;generalize decide (z<0)=s,ys.length=l2,xs.length=l1 at *;have b1:=((am.new w (.bool true) (.slice aa l1 i_) 125).alloc (.cells #[.bool false,.slice ab l2 s_] 125)).alloc (.cells #[.bool false,.slice none 0 0] 125);have b2:=(am.new2 w (.cells #[.bool true,.slice aa l1 i_] 125) (.bool false) (.slice ab l2 s_) 125).alloc (.cells #[.bool false,.slice none 0 0] 125);have b3:=am.new2 (w.alloc (.cells #[.bool true,.slice aa l1 i_] 125)) (.cells #[.bool false,.slice ab l2 s_] 125) (.bool false) (.slice none 0 0) 125;rw [wN] at b3;have hB:=(((wP w.heap.size w).alloc (wQ _) (.cells #[.bool true,.slice aa l1 i_] 125)).alloc (by rw [wN];omega) (.cells #[.bool false,.slice ab l2 s_] 125)).alloc (by rw [wN,wN];omega) (.cells #[.bool false,.slice none 0 0] 125);generalize hw3:((w.alloc (.cells #[.bool true,.slice aa l1 i_] 125)).alloc (.cells #[.bool false,.slice ab l2 s_] 125)).alloc (.cells #[.bool false,.slice none 0 0] 125)=w3 at *;have i1:=b1.c0;have i2:=b1.c1;have i3:=b2.c0;have i4:=b2.c1;go_enter Tryz.func140,Tryz.ntmps140
 go_wp2_with (go_at_call 173;(with_reducible refine (PM.out _ (zI.out _ hB) (z6.out _ hB)).mono ?_);rintro e wm ⟨rfl,yB⟩;have m1:=b1.keep yB;have m2:=b2.keep yB;have m3:=b3.keep yB;have j1:=m1.c0;have j2:=m1.c1;have j3:=m2.c0;have j4:=m2.c1;have k1:=m1.f0;have k2:=m1.f1;have k3:=m2.f0;have k4:=m2.f1;have Bm:=d_ hB yB)
 have n1:=m1;have n2:=m2;have n3:=m3;have Bn:=Bm;clear i1 i2 i3 i4 j1 j2 j3 j4 k1 k2 k3 k4 m1 m2 m3 b1 b2 b3 yB;have e1:=n1.c0;have e2:=n1.c1;have e3:=n2.c0;have e4:=n2.c1
 go_region_held3 (fun W=>W.cell? ⟨w.heap.size,0,none⟩=some (.bool true)∧W.cell? ⟨w.heap.size,1,none⟩=some (.slice aa l1 i_)∧W.cell? ⟨w.heap.size+1,0,none⟩=some (.bool false)∧W.cell? ⟨w.heap.size+1,1,none⟩=some (.slice ab l2 s_)) (first | (refine ⟨?_,?_,?_,?_⟩ <;> (first | (with_reducible exact aE (by assumption) (by assumption)) | (with_reducible exact Gr.bG (by assumption)) | (with_reducible refine Gr.bQ (by assumption) ?_;(intro ww;(try simp only [wN,aL,World.heap_drewN,aI] at ww);omega)) | (with_reducible refine Gr.cl (by assumption) ?_ ?_ <;> (intro ww;(try simp only [wN,aL,World.heap_drewN,aI] at ww);omega)) | exact aE (by assumption) (by assumption) | (with_reducible exact bF (by assumption) (by assumption) (by assumption)))) | (go_split_ands;(refine ⟨?_,?_,?_,?_⟩ <;> (first | (with_reducible exact aE (by assumption) (by assumption)) | (with_reducible exact Gr.bG (by assumption)) | (with_reducible refine Gr.bQ (by assumption) ?_;(intro ww;(try simp only [wN,aL,World.heap_drewN,aI] at ww);omega)) | (with_reducible refine Gr.cl (by assumption) ?_ ?_ <;> (intro ww;(try simp only [wN,aL,World.heap_drewN,aI] at ww);omega)) | exact aE (by assumption) (by assumption) | (with_reducible exact bF (by assumption) (by assumption) (by assumption))))) | go_keep) ((first
  | (go_at_call 172;(with_reducible refine (PA.out _ (zI.out _ Bn.drew) (z6.out _ Bn.drew)).mono ?_);rintro e w4 ⟨v4,rfl,xF,hb4⟩;have B4:=Bn.drew.trans (hb4.mono Bn.size);have r4:=n3.drew.keep hb4;have yX:=aE hb4 (ae e1);have y_:=aE hb4 (ae e2);have zh:=aE hb4 (ae e3);have AC:=aE hb4 (ae e4);(have z4:wm.heap.size≤w4.heap.size:=hb4.size))
  | (go_at_call 171;(with_reducible refine (PT.out _ _ _ xF).mono ?_);rintro e w5 ⟨vc,rfl,hoc,hbc⟩;obtain ⟨ac,wY,rfl,hmc,xR⟩:=aF.view hoc;have B5:=d_ B4 hbc;have r5:=r4.keep hbc;have c0:=r5.c0;have c1:=r5.c1;have g0:=r5.f0;have g1:=r5.f1;have BS:=aE hbc yX;have CD:=aE hbc y_;have DC:=aE hbc zh;have DM:=aE hbc AC;clear xR hmc)
  | fail "ARMS"))
 all_goals
  have hr:=bn (w:=w) (w.heap.size+1+1) _ (.bool s) (by omega) (Nat.lt_of_lt_of_le n3.size z4) hoc B5;generalize (Wh.a_ z.natAbs).length=yH at *;go_wp2;exact bodyPost_ret (v:=.agg #[.bool s,.slice ac yH wY]) (by simp [results,Tryz.results140,go_sem, *]) rfl (⟨_,rfl,hr.1,hr.2⟩)
end
end Go.Proofs.YtggekfbfechonaaGreat
