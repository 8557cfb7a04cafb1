/-
  Joined texts: contracts and plain lemmas.
-/
import Derived.Test.YtkalaljcbmkbmaaGreatB1
import Derived.Laws.OwnMore
import Derived.Deep.DeepCutAuto
import Derived.Deep.RegionWith
import Derived.BigQuiet
set_option linter.unusedSimpArgs false
set_option linter.unusedVariables false
set_option maxRecDepth 100000
set_option maxHeartbeats 8000000
namespace Go.Proofs.YtkalaljcbmkbmaaGreat
section
open Go.RowKit
def ae (W:World) (base:Nat) (sl:Value) (z:Int):Prop:=aF W base sl (Wh.a_ z.natAbs)
theorem ae.below {w w':World} {base:Nat} {v:Value} {z:Int} (h:ae w base v z) (hb:Below w.heap.size w w'):ae w' base v z:=aF.below h hb
theorem ae.base {w:World} {base base':Nat} {v:Value} {z:Int} (h:ae w base v z) (hb:base'<=base):ae w base' v z:=aF.base h hb
namespace Wh
theorem qg {l:List Int} {k:Nat} (hk:k<l.length) (h0:l[k]?=some 0):trim (l.take (k+1))=trim (l.take k):=by
 rw [List.take_add_one,h0];exact jk _
theorem my {l:List Int} {k:Nat} {x:Int} (hx:l[k]?=some x) (h0:x≠0):trim (l.take (k+1))=l.take (k+1):=by
 rw [List.take_add_one,hx];exact mw _ h0
theorem BG {n:Nat}:decide (0<(a_ n).length)=decide ((n:Int)≠0):=by
 rw [decide_eq_decide]
 constructor
 ·intro h h0
  rw [gv.2 (by omega:n=0)] at h;exact absurd h (by decide)
 intro h
 cases hd:a_ n with
 | nil=>exact absurd (gv.1 hd) (by omega)
 | cons x l=>exact Nat.succ_pos _
end Wh
structure ay (w:World) (b:Nat) (u v:Value):Prop where
 c0:w.cell? ⟨b,0,none⟩=some u
 c1:w.cell? ⟨b,1,none⟩=some v
 f0:w.frozen? ⟨b,0,none⟩=false
 f1:w.frozen? ⟨b,1,none⟩=false
 size:b<w.heap.size
theorem ay.keep {w w':World} {b:Nat} {u v:Value} (h:ay w b u v) (hb:Below w.heap.size w w'):ay w' b u v:=
 have hg:=bw hb none
 ⟨hg.cell h.c0 (by simp),hg.cell h.c1 (by simp),(Gr.frozen hg h.size (by simp)).trans h.f0,(Gr.frozen hg h.size (by simp)).trans h.f1,Gr.lZ hg h.size⟩
theorem ay.new (w:World) (u v:Value) (T:TypeId):ay (w.alloc (.cells #[u,v] T)) w.heap.size u v:=
 ⟨by rw [World.cell?_alloc_at _ _ _ _ rfl];rfl,by rw [World.cell?_alloc_at _ _ _ _ rfl];rfl,by simp [go_sem],by simp [go_sem],by rw [DC];omega⟩
theorem ay.alloc {w:World} {b:Nat} {u v:Value} (h:ay w b u v) (o:Obj):ay (w.alloc o) b u v:=h.keep ((DE _ _).alloc (DF _) o)
theorem ue {w w2:World} {o:Obj} {sl:Value} {xs:List Int} (u:Value) (hoc:aF w2 (w.alloc o).heap.size sl xs) (hbc:Below (w.alloc o).heap.size (w.alloc o) w2) :
  aF ((w2.setCell ⟨w.heap.size,0,none⟩ u).setCell ⟨w.heap.size,1,none⟩ sl) w.heap.size sl xs/\Below w.heap.size w ((w2.setCell ⟨w.heap.size,0,none⟩ u).setCell ⟨w.heap.size,1,none⟩ sl):=by
 have hz:(w.alloc o).heap.size=w.heap.size+1:=DC _ _;refine ⟨aF.base (World.ownsRow.kept hoc (cO w2 w.heap.size u sl) ?_) (by omega),?_⟩
 ·cases hs:sl.ownBlock with
  | none=>exact Or.inl rfl
  | some g=>
  right
  intro e
  injection e with e
  have:=(aF.lt hoc g hs).1;omega
 exact ((((DE _ _).alloc (DF _) o).trans (hbc.mono (by omega))).setCell (DF _) _).setCell (DF _) _
theorem aF.CX {w:World} {base cap k:Nat} {a:Option Addr} {xs:List Int} (h:aF w base (.slice a xs.length cap) xs) (hk:k<=xs.length):aF w base (.slice a k cap) (xs.take k):=by
 rcases h.forms with ⟨e,rfl⟩ | ⟨g,cap',e,-⟩
 ·obtain rfl:k=0:=by simpa using hk
  exact h
 injection e with e1 e2 e3
 subst e1;exact aF.cut rfl h hk rfl
theorem Wh.qe {l:List Int} {k n:Nat} (hk:k<=l.length) (h:l.take k=Wh.a_ n):(n:Int)≠0 ↔ 0<k:=by
 have h1:=congrArg List.length h;rw [List.length_take,Nat.min_eq_left hk] at h1;have h2:=Wh.BG (n:=n);rw [decide_eq_decide,←h1] at h2;exact h2.symm
theorem uo (neg:Bool) (ls:List Int) (v:Value) (w:World) (base:Nat) (hown:aF w base v ls) (h:Wh.bD ls) (hl:ls.length<=1000000) :
  Calls Tryz.prog 127 #[neg,v] w fun e w'=>∃ sl,e=.returned (.agg #[decide (Wh.Dv neg (Wh.val ls)<0),sl])/\ae w' w.heap.size sl (Wh.Dv neg (Wh.val ls))/\Below w.heap.size w w':=by
 obtain ⟨a,cap,rfl,hm,hv⟩:=hown.seen;have hv:=DB hv;have hgt:=DB (Wh.kU h);have hn:=Wh.dB h;have hs1:=DB (Wh.tL (neg:=neg) hn);have hs2:=DB (Wh.pA (neg:=neg) hn);have hls:=DB h;have hcp:=hown.cap;replace hown:=DB hown;clear hm hn h;have bx:=ay.new w (.bool false) (.slice none 0 0) 116;go_enter Tryz.func127,Tryz.ntmps127
 go_wp2
 go_loopw [1] (fun vl wr=>∃ k:Nat,k<=ls.length/\vl=.slice a k cap/\Wh.trim (ls.take k)=Wh.trim ls/\wr=w.alloc (.cells #[false,.slice none 0 0] 116)) (fun vl _=>match vl with | .slice _ n _=>n | _=>0)
 case atStart=>exact ⟨ls.length,DF _,rfl,by rw [List.take_length],rfl⟩
 case round=>
 obtain ⟨k,hk,rfl,htr,rfl⟩:=hrel;have hown2:aF (w.alloc (.cells #[false,.slice none 0 0] 116)) base (.slice a k cap) (ls.take k):=(aF.CX hown.out hk).alloc _
 have fin:ls.take k=Wh.a_ (Wh.val ls).toNat->Hid ((decide (Wh.Dv neg (Wh.val ls)<0)=(neg && decide (0<k)))/\∀ (W:World) (b:Nat) (vc:Value),aF W b vc (ls.take k)->ae W b vc (Wh.Dv neg (Wh.val ls))):=fun h=>DB (by
  have h2:=Wh.qe hk h;have hn:=Wh.dB hls.out;refine ⟨?_,fun W b vc ho=>?_⟩
  ·rw [hs1.out]
   congr 1
   rw [decide_eq_decide,←h2];omega
  unfold ae;rw [hs2.out,←h]
  exact ho)
 have PC:=fun W v h=>pc (ls.take k) v W base h (by rw [List.length_take];omega)
 have PC:=DB PC;have hown2:=DB hown2;have htr:=DB htr
 cases k with
 | zero=>
  have f2:=fin (by rw [←hgt.out,←htr.out];rfl);clear fin htr hgt;cases neg
  all_goals
   go_wp2_with (go_at_call 146;(with_reducible refine (PC.out _ _ hown2.out).mono ?_);rintro e w2 ⟨vc,rfl,hoc,hbc⟩;obtain ⟨ac,x_,rfl,hmc,Dd⟩:=hoc.view;have Dc:=bx.keep hbc;have c0:=Dc.c0;have c1:=Dc.c1;have g0:=Dc.f0;have g1:=Dc.f1;clear Dd hmc)
   have hr:=ue (.bool false) hoc hbc;exact bodyPost_ret (v:=.agg #[false,.slice ac 0 x_]) (by simp [results,Tryz.results127,go_sem, *]) rfl (⟨_,by rw [f2.out.1] <;> rfl,f2.out.2 _ _ _ hr.1,hr.2⟩)
 | succ m=>
 obtain ⟨g,x,rfl,hg,hx,hcell⟩:=hv.out m (by omega)
 by_cases h0:x=0
 ·subst h0
  have hct:=DB ((Wh.qg (by omega) hx.out).symm.trans htr.out);clear fin htr;go_wp2
  go_roundw
  case rel=>exact ⟨m,by omega,rfl,hct.out,by first | rfl | trivial⟩
  case measure=>simp
 have f2:=fin (by rw [←hgt.out,←htr.out,Wh.my hx.out h0]);generalize ls.take (m+1)=L at *;clear fin htr hgt;cases neg
 ·go_wp2_with (go_at_call 146;(with_reducible refine (PC.out _ _ hown2.out).mono ?_);rintro e w2 ⟨vc,rfl,hoc,hbc⟩;obtain ⟨ac,x_,rfl,hmc,Dd⟩:=hoc.view;have Dc:=bx.keep hbc;have c0:=Dc.c0;have c1:=Dc.c1;have g0:=Dc.f0;have g1:=Dc.f1;clear Dd hmc)
  have hr:=ue (.bool false) hoc hbc;exact bodyPost_ret (v:=.agg #[false,.slice ac L.length x_]) (by simp [results,Tryz.results127,go_sem, *]) rfl (⟨_,by rw [f2.out.1] <;> rfl,f2.out.2 _ _ _ hr.1,hr.2⟩)
 go_wp2_with (go_at_call 146;(with_reducible refine (PC.out _ _ hown2.out).mono ?_);rintro e w2 ⟨vc,rfl,hoc,hbc⟩;obtain ⟨ac,x_,rfl,hmc,Dd⟩:=hoc.view;have Dc:=bx.keep hbc;have c0:=Dc.c0;have c1:=Dc.c1;have g0:=Dc.f0;have g1:=Dc.f1;clear Dd hmc)
 have hr:=ue (.bool true) hoc hbc;exact bodyPost_ret (v:=.agg #[true,.slice ac L.length x_]) (by simp [results,Tryz.results127,go_sem, *]) rfl (⟨_,by rw [f2.out.1] <;> simp,f2.out.2 _ _ _ hr.1,hr.2⟩)
namespace Wh
theorem tM (z:Int):Dv (!decide (z<0)) z.natAbs=-z:=by
 unfold Dv
 by_cases h:z<0
 ·rw [decide_eq_true h];simp only [Bool.not_true,Bool.false_eq_true,if_false];omega
 rw [decide_eq_false h];simp only [Bool.not_false,if_true];omega
theorem pL {o:List Int} {m N:Int} (ho:bD o) (h:val o+10000 ^ o.length*m=N) (hm:0<m) (hN:N<=1000000000000000000):o.length<=4:=by
 have h1:=dB ho
 by_cases h5:5<=o.length
 ·have h2:=jf h5
  have h3:=Int.mul_le_mul_of_nonneg_left (show 1<=m by omega) (Int.le_of_lt (pow_pos o.length))
  have h4:(10000:Int) ^ 5=100000000000000000000:=by decide
  omega
 omega
theorem kV {o:List Int} {m N:Int} (h:val o+10000 ^ o.length*m=N) (hm:0<=m):val (o ++ [m % 10000])+10000 ^ (o ++ [m % 10000]).length*(m / 10000)=N:=by
 rw [qn,List.length_append,List.length_singleton,Int.pow_succ];have:=Int.mul_ediv_add_emod m 10000;generalize m / 10000=q,m % 10000=r at *
 grind
end Wh
theorem gI (z:Int) (neg:Bool) (ls:List Int) (v:Value) (w:World) (base:Nat) (hown:aF w base v ls) (h:Wh.bD ls) (hl:ls.length<=1000000) (hz:Wh.Dv neg (Wh.val ls)=z) :
  Calls Tryz.prog 127 #[neg,v] w fun e w'=>∃ sl,e=.returned (.agg #[decide (z<0),sl])/\ae w' w.heap.size sl z/\Below w.heap.size w w':=by
 subst hz;exact uo neg ls v w base hown h hl
theorem cL {w w2:World} {sl:Value} {xs:List Int} (c base:Nat) (u:Value) (h1:w.heap.size<=c) (h2:c<base) (hoc:aF w2 base sl xs) (hB:Below w.heap.size w w2) :
  aF ((w2.setCell ⟨c,0,none⟩ u).setCell ⟨c,1,none⟩ sl) w.heap.size sl xs/\Below w.heap.size w ((w2.setCell ⟨c,0,none⟩ u).setCell ⟨c,1,none⟩ sl):=by
 refine ⟨aF.base (World.ownsRow.kept hoc (cO w2 c u sl) ?_) (by omega),(hB.setCell h1 _).setCell h1 _⟩
 cases hs:sl.ownBlock with
 | none=>exact Or.inl rfl
 | some g=>
 right
 intro e
 injection e with e
 have:=(aF.lt hoc g hs).1;omega
theorem fm (w:World) (o o':Obj):((w.alloc o).alloc o').heap.size=w.heap.size+2:=by rw [DC,DC]
theorem ay.new2 (w:World) (o:Obj) (u v:Value) (T:TypeId):ay ((w.alloc o).alloc (.cells #[u,v] T)) (w.heap.size+1) u v:=by
 have:=ay.new (w.alloc o) u v T
 rwa [DC] at this
theorem fy (w:World) (u v:Value) (T:TypeId) (u2 v2:Value) (T2:TypeId) (u3 v3:Value) (T3:TypeId):∃ wc,((w.alloc (.cells #[u,v] T)).alloc (.cells #[u2,v2] T2)).alloc (.cells #[u3,v3] T3)=wc/\ay wc w.heap.size u v/\ay wc (w.heap.size+1) u2 v2/\ay wc (w.heap.size+1+1) u3 v3/\Below w.heap.size w wc:=by
 have h3:=ay.new2 (w.alloc (.cells #[u,v] T)) (.cells #[u2,v2] T2) u3 v3 T3;rw [DC] at h3;exact ⟨_,rfl,((ay.new w u v T).alloc _).alloc _,(ay.new2 w _ u2 v2 T2).alloc _,h3,(((DE w.heap.size w).alloc (DF _) _).alloc (by rw [DC];omega) _).alloc (by rw [DC,DC];omega) _⟩
theorem jX (z:Int) (sl:Value) (w:World) (base:Nat) (ho:ae w base sl z) (hl:(Wh.a_ z.natAbs).length<=1000000) :
  Calls Tryz.prog 90 #[.agg #[decide (z<0),sl]] w fun e w'=>∃ sl',e=.returned (.agg #[decide (-z<0),sl'])/\ae w' w.heap.size sl' (-z)/\Below w.heap.size w w':=by
 have PT:=fun W v h=>gI (-z) (!decide (z<0)) (Wh.a_ z.natAbs) v W base h (Wh.an _) hl (by rw [Wh.bE];exact Wh.tM z)
 obtain ⟨a,cap,rfl,hm,hv⟩:=aF.view ho;clear hm hv;have ho:=DB (show aF _ _ _ _ from ho);generalize -z=y,decide (z<0)=b at *;generalize (Wh.a_ z.natAbs).length=n,decide (y<0)=b' at *;have bz:=ay.new2 w (.cells #[b,.slice a n cap] 116) (.bool false) (.slice none 0 0) 116;have hz2:=fm w (.cells #[b,.slice a n cap] 116) (.cells #[false,.slice none 0 0] 116);cases b
 all_goals
  simp only [Bool.not_true,Bool.not_false] at PT;have PT:=DB PT;go_enter Tryz.func90,Tryz.ntmps90
  go_wp2_with (go_at_call 127;(with_reducible refine (PT.out _ _ (aF.alloc (aF.alloc ho.out _) _)).mono ?_);rintro e w2 ⟨vc,rfl,hoc,hbc⟩;obtain ⟨ac,x_,rfl,hmc,Dd⟩:=aF.view hoc;have Dc:=bz.keep hbc;have c0:=Dc.c0;have c1:=Dc.c1;have g0:=Dc.f0;have g1:=Dc.f1;clear Dd hmc)
  have hr:=cL (w:=w) (w.heap.size+1) _ (.bool b') (by omega) (by rw [hz2];omega) hoc (by repeat (first | exact DE _ _ | refine aQ ?_ _ | refine aR ?_ (by assumption) | refine Below.drew ?_ | refine DD ?_ (by first | exact DF _ | exact Nat.le_add_right _ _ | (simp <;> omega)) _ | refine aN ?_ _));generalize (Wh.a_ y.natAbs).length=n2 at *;exact bodyPost_ret (v:=.agg #[b',.slice ac n2 x_]) (by simp [results,Tryz.results90,go_sem, *]) rfl (⟨_,rfl,hr.1,hr.2⟩)
theorem qy (z:Int) (sl:Value) (w:World) (base:Nat) (ho:ae w base sl z) (hl:(Wh.a_ z.natAbs).length<=1000000) :
  Calls Tryz.prog 184 #[.agg #[decide (z<0),sl]] w fun e w'=>∃ sl',e=.returned (.agg #[decide ((z.natAbs:Int)<0),sl'])/\ae w' w.heap.size sl' (z.natAbs:Int)/\Below w.heap.size w w':=by
 have PT:=fun W v h=>gI (z.natAbs:Int) false (Wh.a_ z.natAbs) v W base h (Wh.an _) hl (by rw [Wh.bE];rfl)
 obtain ⟨a,cap,rfl,hm,hv⟩:=aF.view ho;clear hm hv;have ho:=DB (show aF _ _ _ _ from ho);generalize decide (z<0)=b at *;generalize (z.natAbs:Int)=y at *;generalize (Wh.a_ z.natAbs).length=n,decide (y<0)=b' at *;have bz:=ay.new2 w (.cells #[b,.slice a n cap] 116) (.bool false) (.slice none 0 0) 116;have hz2:=fm w (.cells #[b,.slice a n cap] 116) (.cells #[false,.slice none 0 0] 116);cases b
 all_goals
  have PT:=DB PT;go_enter Tryz.func184,Tryz.ntmps184
  go_wp2_with (go_at_call 127;(with_reducible refine (PT.out _ _ (aF.alloc (aF.alloc ho.out _) _)).mono ?_);rintro e w2 ⟨vc,rfl,hoc,hbc⟩;obtain ⟨ac,x_,rfl,hmc,Dd⟩:=aF.view hoc;have Dc:=bz.keep hbc;have c0:=Dc.c0;have c1:=Dc.c1;have g0:=Dc.f0;have g1:=Dc.f1;clear Dd hmc)
  have hr:=cL (w:=w) (w.heap.size+1) _ (.bool b') (by omega) (by rw [hz2];omega) hoc (by repeat (first | exact DE _ _ | refine aQ ?_ _ | refine aR ?_ (by assumption) | refine Below.drew ?_ | refine DD ?_ (by first | exact DF _ | exact Nat.le_add_right _ _ | (simp <;> omega)) _ | refine aN ?_ _));generalize (Wh.a_ y.natAbs).length=n2 at *;exact bodyPost_ret (v:=.agg #[b',.slice ac n2 x_]) (by simp [results,Tryz.results184,go_sem, *]) rfl (⟨_,rfl,hr.1,hr.2⟩)
theorem ay.dZ {w w':World} {b base:Nat} {u v:Value} (h:ay w b u v) (hb:Below base w w') (hl:b<base):ay w' b u v:=
 ⟨(hb.cell (p:=⟨b,0,none⟩) hl).trans h.c0,(hb.cell (p:=⟨b,1,none⟩) hl).trans h.c1,(hb.frozen (p:=⟨b,0,none⟩) hl).trans h.f0,(hb.frozen (p:=⟨b,1,none⟩) hl).trans h.f1,Nat.lt_of_lt_of_le h.size hb.size⟩
theorem bX (n:Int) (w:World) (h1:-1000000000000000000<=n) (h2:n<=1000000000000000000) :
  Calls Tryz.prog 88 #[n] w fun e w'=>∃ sl,e=.returned (.agg #[decide (n<0),sl])/\ae w' w.heap.size sl n/\Below w.heap.size w w':=by
 obtain ⟨k,hk⟩:∃ k:Nat,n.natAbs=k:=⟨_,rfl⟩
 have PT:=fun (o:List Int) (W:World) (v:Value) (base:Nat) (h:aF W base v o) (hl:Wh.bD o) (hv:Wh.val o=k) (hlen:o.length<=1000000)=>gI n (decide (n<0)) o v W base h hl hlen (by rw [hv,←hk];exact Wh.qd n)
 have hbd:(k:Int)<=1000000000000000000:=by omega
 have bx:=ay.new w (.bool false) (.slice none 0 0) 116
 by_cases hneg:n<0
 ·obtain rfl:n=-(k:Int):=by omega
  have hk0:0<(k:Int):=by omega
  have hdk:decide (-(k:Int)<0)=decide (0<k):=by rw [decide_eq_decide];omega
  rw [hdk] at PT ⊢;clear hdk;have PT:=DB PT;clear hk hneg h1 h2;go_enter Tryz.func88,Tryz.ntmps88
  go_wp2
  go_loopw [0,4] (fun vn vo wr=>∃ (m:Nat) (o:List Int),vn=.int .i64 m/\aF wr (w.heap.size+1) vo o/\Wh.bD o/\Wh.val o+10000 ^ o.length*(m:Int)=k/\m<=1000000000000000000/\o.length<=5/\Hid (ay wr w.heap.size (.bool false) (.slice none 0 0))/\Below w.heap.size w wr) (fun vn _ _=>(intOf vn).toNat)
  case atStart=>exact ⟨k,[],rfl,aF.nil _ _,(fun x hx=>by cases hx),by simp [Wh.val],by omega,by simp,DB bx,(DE _ _).alloc (DF _) _⟩
  case round=>
  clear bx;obtain ⟨m,o,rfl,hown,hls,hvl,hm18,Dw,Dr,hbr⟩:=hrel;have hls:=DB hls;have Fl:w.heap.size+1<=wr.heap.size:=Dr.out.size
  by_cases hm0:0<m
  ·have hlen:=Wh.pL hls.out hvl (by omega) (by omega)
   have hst:=Wh.kV hvl (by omega);rw [show ((m:Int) % 10000)=((m % 10000:Nat):Int) by omega,show ((m:Int) / 10000)=((m / 10000:Nat):Int) by omega] at hst;have hst:=DB hst;have hrb:m % 10000<10000:=Nat.mod_lt _ (by decide);have MQ:m / 10000<m:=Nat.div_lt_self hm0 (by decide)
   have t1:Int.tmod (m:Int) 10000=((m % 10000:Nat):Int):=by rw [Int.tmod_eq_emod_of_nonneg (by omega)];omega
   have t2:Int.tdiv (m:Int) 10000=((m / 10000:Nat):Int):=by rw [Int.tdiv_eq_ediv_of_nonneg (by omega)];omega
   generalize m / 10000=q,m % 10000=r at *;have hl2:Hid (Wh.bD (o ++ [(r:Int)])):=DB (Wh.cM hls.out fun y hy=>by rw [List.mem_singleton] at hy;subst hy;unfold Wh.lim;omega);have hl3:Hid ((o ++ [(r:Int)]).length<=5):=DB (by rw [List.length_append];simp;omega);have hown:=DB hown;clear hvl
   go_wp2_with (at_builtin;refine cw (W:=wr) (w.heap.size+1) (r:Int) _ _ rfl (.tmp 15) (.tmp 18) rfl rfl rfl hown.out (DE _ _) (by omega) (by omega) ?_;rintro v6 w6 hown6 hb6)
   go_roundw
   case rel=>exact ⟨q,o ++ [(r:Int)],rfl,hown6,hl2.out,hst.out,by omega,hl3.out,DB (Dr.out.dZ hb6 (Nat.lt_succ_self _)),hbr.trans (hb6.mono (Nat.le_succ _))⟩
   case measure=>simp [intOf];omega
  obtain rfl:m=0:=by omega
  have D4:Wh.val o=k:=by rw [←hvl];simp
  have D4:=DB D4;have hown:=DB hown;clear hvl
  go_wp2_with (go_at_call 127;(with_reducible refine (PT.out o _ _ _ hown.out hls.out D4.out (by omega)).mono ?_);rintro e w2 ⟨vc,rfl,hoc,hbc⟩;obtain ⟨ac,x_,rfl,hmc,Dd⟩:=aF.view hoc;have Dc:=Dr.out.keep hbc;have c0:=Dc.c0;have c1:=Dc.c1;have g0:=Dc.f0;have g1:=Dc.f1;clear Dd hmc)
  have hr:=cL (w:=w) w.heap.size _ (.bool (decide (0<k))) (DF _) Dr.out.size hoc (hbr.trans (hbc.mono (by omega)))
  have en:(-(k:Int)).natAbs=k:=by omega
  rw [en] at hr;generalize (Wh.a_ k).length=n2 at *;exact bodyPost_ret (v:=.agg #[decide (0<k),.slice ac n2 x_]) (by simp [results,Tryz.results88,go_sem, *]) rfl (⟨_,rfl,by unfold ae;rw [en];exact hr.1,hr.2⟩)
 obtain rfl:n=(k:Int):=by omega
 rw [decide_eq_false hneg] at PT ⊢;have PT:=DB PT;clear hk h1 h2
 have QI:0<=(k:Int):=by omega
 go_enter Tryz.func88,Tryz.ntmps88
 go_wp2
 go_loopw [0,4] (fun vn vo wr=>∃ (m:Nat) (o:List Int),vn=.int .i64 m/\aF wr (w.heap.size+1) vo o/\Wh.bD o/\Wh.val o+10000 ^ o.length*(m:Int)=k/\m<=1000000000000000000/\o.length<=5/\Hid (ay wr w.heap.size (.bool false) (.slice none 0 0))/\Below w.heap.size w wr) (fun vn _ _=>(intOf vn).toNat)
 case atStart=>exact ⟨k,[],rfl,aF.nil _ _,(fun x hx=>by cases hx),by simp [Wh.val],by omega,by simp,DB bx,(DE _ _).alloc (DF _) _⟩
 case round=>
 clear bx;obtain ⟨m,o,rfl,hown,hls,hvl,hm18,Dw,Dr,hbr⟩:=hrel;have hls:=DB hls;have Fl:w.heap.size+1<=wr.heap.size:=Dr.out.size
 by_cases hm0:0<m
 ·have hlen:=Wh.pL hls.out hvl (by omega) (by omega)
  have hst:=Wh.kV hvl (by omega);rw [show ((m:Int) % 10000)=((m % 10000:Nat):Int) by omega,show ((m:Int) / 10000)=((m / 10000:Nat):Int) by omega] at hst;have hst:=DB hst;have hrb:m % 10000<10000:=Nat.mod_lt _ (by decide);have MQ:m / 10000<m:=Nat.div_lt_self hm0 (by decide)
  have t1:Int.tmod (m:Int) 10000=((m % 10000:Nat):Int):=by rw [Int.tmod_eq_emod_of_nonneg (by omega)];omega
  have t2:Int.tdiv (m:Int) 10000=((m / 10000:Nat):Int):=by rw [Int.tdiv_eq_ediv_of_nonneg (by omega)];omega
  generalize m / 10000=q,m % 10000=r at *;have hl2:Hid (Wh.bD (o ++ [(r:Int)])):=DB (Wh.cM hls.out fun y hy=>by rw [List.mem_singleton] at hy;subst hy;unfold Wh.lim;omega);have hl3:Hid ((o ++ [(r:Int)]).length<=5):=DB (by rw [List.length_append];simp;omega);have hown:=DB hown;clear hvl
  go_wp2_with (at_builtin;refine cw (W:=wr) (w.heap.size+1) (r:Int) _ _ rfl (.tmp 15) (.tmp 18) rfl rfl rfl hown.out (DE _ _) (by omega) (by omega) ?_;rintro v6 w6 hown6 hb6)
  go_roundw
  case rel=>exact ⟨q,o ++ [(r:Int)],rfl,hown6,hl2.out,hst.out,by omega,hl3.out,DB (Dr.out.dZ hb6 (Nat.lt_succ_self _)),hbr.trans (hb6.mono (Nat.le_succ _))⟩
  case measure=>simp [intOf];omega
 obtain rfl:m=0:=by omega
 have D4:Wh.val o=k:=by rw [←hvl];simp
 have D4:=DB D4;have hown:=DB hown;clear hvl
 go_wp2_with (go_at_call 127;(with_reducible refine (PT.out o _ _ _ hown.out hls.out D4.out (by omega)).mono ?_);rintro e w2 ⟨vc,rfl,hoc,hbc⟩;obtain ⟨ac,x_,rfl,hmc,Dd⟩:=aF.view hoc;have Dc:=Dr.out.keep hbc;have c0:=Dc.c0;have c1:=Dc.c1;have g0:=Dc.f0;have g1:=Dc.f1;clear Dd hmc)
 have hr:=cL (w:=w) w.heap.size _ (.bool false) (DF _) Dr.out.size hoc (hbr.trans (hbc.mono (by omega)))
 have en:(k:Int).natAbs=k:=by omega
 rw [en] at hr;generalize (Wh.a_ k).length=n2 at *;exact bodyPost_ret (v:=.agg #[false,.slice ac n2 x_]) (by simp [results,Tryz.results88,go_sem, *]) rfl (⟨_,rfl,by unfold ae;rw [en];exact hr.1,hr.2⟩)
theorem zA (xs:List Int) (v:Value) (w:World) (base:Nat) (hown:aF w base v xs) (hl:xs.length<=1000000000) :
  Calls Tryz.prog 70 #[v] w fun e w'=>∃ v',e=.returned v'/\aF w' w.heap.size v' xs/\Below w.heap.size w w':=by
 obtain ⟨A,cap',rfl,hf⟩:=qA hown;have hf:=DB hf;go_enter Tryz.func70,Tryz.ntmps70
 go_wp2_with (at_builtin;refine qS (W:=w) w.heap.size xs [] _ A _ _ (by rfl) (by rfl) (.tmp 3) (.tmp 4) (by rfl) (by rfl) (by rfl) (hf.out _ (by repeat (first | exact DE _ _ | refine aQ ?_ _ | refine aR ?_ (by assumption) | refine Below.drew ?_ | refine DD ?_ (by first | exact DF _ | exact Nat.le_add_right _ _ | (simp <;> omega)) _ | refine aN ?_ _))) (aF.zD _ _ (DF _)) (by repeat (first | exact DE _ _ | refine aQ ?_ _ | refine aR ?_ (by assumption) | refine Below.drew ?_ | refine DD ?_ (by first | exact DF _ | exact Nat.le_add_right _ _ | (simp <;> omega)) _ | refine aN ?_ _)) (by simp) (by simp;omega) ?_;rintro v1 w1 hown1 hb1)
 go_ret;exact ⟨_,rfl,hown1,hb1⟩
theorem vM (neg:Bool) (ls:List Int) (v:Value) (w:World) (base:Nat) (hown:aF w base v ls) (h:Wh.bD ls) (hl:ls.length<=1000000) :
  Calls Tryz.prog 196 #[neg,v] w fun e w'=>∃ sl,e=.returned (.agg #[decide (Wh.Dv neg (Wh.val ls)<0),sl])/\ae w' w.heap.size sl (Wh.Dv neg (Wh.val ls))/\Below w.heap.size w w':=by
 obtain ⟨a,cap,rfl,hm,hv⟩:=hown.seen;have hv:=DB hv;have hgt:=DB (Wh.kU h);have hn:=Wh.dB h;have hs1:=DB (Wh.tL (neg:=neg) hn);have hs2:=DB (Wh.pA (neg:=neg) hn);have hls:=DB h;have hcp:=hown.cap;replace hown:=DB hown;clear hm hn h;have bx:=ay.new w (.bool false) (.slice none 0 0) 116;go_enter Tryz.func196,Tryz.ntmps196
 go_wp2
 go_loopw [5] (fun vl wr=>∃ k:Nat,k<=ls.length/\vl=.int .i64 k/\Wh.trim (ls.take k)=Wh.trim ls/\wr=w.alloc (.cells #[false,.slice none 0 0] 116)) (fun vl _=>(intOf vl).toNat)
 case atStart=>exact ⟨ls.length,DF _,rfl,by rw [List.take_length],rfl⟩
 case round=>
 obtain ⟨k,hk,rfl,htr,rfl⟩:=hrel;have hown2:aF (w.alloc (.cells #[false,.slice none 0 0] 116)) base (.slice a k cap) (ls.take k):=(aF.CX hown.out hk).alloc _
 have fin:ls.take k=Wh.a_ (Wh.val ls).toNat->Hid ((decide (Wh.Dv neg (Wh.val ls)<0)=(neg && decide (0<k)))/\∀ (W:World) (b:Nat) (vc:Value),aF W b vc (ls.take k)->ae W b vc (Wh.Dv neg (Wh.val ls))):=fun h=>DB (by
  have h2:=Wh.qe hk h;have hn:=Wh.dB hls.out;refine ⟨?_,fun W b vc ho=>?_⟩
  ·rw [hs1.out]
   congr 1
   rw [decide_eq_decide,←h2];omega
  unfold ae;rw [hs2.out,←h]
  exact ho)
 have PC:=fun W v h=>zA (ls.take k) v W base h (by rw [List.length_take];omega)
 have PC:=DB PC;have hown2:=DB hown2;have htr:=DB htr
 cases k with
 | zero=>
  have f2:=fin (by rw [←hgt.out,←htr.out];rfl);clear fin htr hgt;cases neg
  all_goals
   go_wp2_with (go_at_call 70;(with_reducible refine (PC.out _ _ hown2.out).mono ?_);rintro e w2 ⟨vc,rfl,hoc,hbc⟩;obtain ⟨ac,x_,rfl,hmc,Dd⟩:=hoc.view;have Dc:=bx.keep hbc;have c0:=Dc.c0;have c1:=Dc.c1;have g0:=Dc.f0;have g1:=Dc.f1;clear Dd hmc)
   have hr:=ue (.bool false) hoc hbc;exact bodyPost_ret (v:=.agg #[false,.slice ac 0 x_]) (by simp [results,Tryz.results196,go_sem, *]) rfl (⟨_,by rw [f2.out.1] <;> rfl,f2.out.2 _ _ _ hr.1,hr.2⟩)
 | succ m=>
 obtain ⟨g,x,rfl,hg,hx,hcell⟩:=hv.out m (by omega)
 by_cases h0:x=0
 ·subst h0
  have hct:=DB ((Wh.qg (by omega) hx.out).symm.trans htr.out);clear fin htr;go_wp2
  go_roundw
  case rel=>exact ⟨m,by omega,by go_num,hct.out,by first | rfl | trivial⟩
  case measure=>simp [intOf]
 have f2:=fin (by rw [←hgt.out,←htr.out,Wh.my hx.out h0]);generalize ls.take (m+1)=L at *;clear fin htr hgt;cases neg
 ·go_wp2_with (go_at_call 70;(with_reducible refine (PC.out _ _ hown2.out).mono ?_);rintro e w2 ⟨vc,rfl,hoc,hbc⟩;obtain ⟨ac,x_,rfl,hmc,Dd⟩:=hoc.view;have Dc:=bx.keep hbc;have c0:=Dc.c0;have c1:=Dc.c1;have g0:=Dc.f0;have g1:=Dc.f1;clear Dd hmc)
  have hr:=ue (.bool false) hoc hbc;exact bodyPost_ret (v:=.agg #[false,.slice ac L.length x_]) (by simp [results,Tryz.results196,go_sem, *]) rfl (⟨_,by rw [f2.out.1] <;> rfl,f2.out.2 _ _ _ hr.1,hr.2⟩)
 go_wp2_with (go_at_call 70;(with_reducible refine (PC.out _ _ hown2.out).mono ?_);rintro e w2 ⟨vc,rfl,hoc,hbc⟩;obtain ⟨ac,x_,rfl,hmc,Dd⟩:=hoc.view;have Dc:=bx.keep hbc;have c0:=Dc.c0;have c1:=Dc.c1;have g0:=Dc.f0;have g1:=Dc.f1;clear Dd hmc)
 have hr:=ue (.bool true) hoc hbc;exact bodyPost_ret (v:=.agg #[true,.slice ac L.length x_]) (by simp [results,Tryz.results196,go_sem, *]) rfl (⟨_,by rw [f2.out.1] <;> simp,f2.out.2 _ _ _ hr.1,hr.2⟩)
theorem gu (z:Int) (neg:Bool) (ls:List Int) (v:Value) (w:World) (base:Nat) (hown:aF w base v ls) (h:Wh.bD ls) (hl:ls.length<=1000000) (hz:Wh.Dv neg (Wh.val ls)=z) :
  Calls Tryz.prog 196 #[neg,v] w fun e w'=>∃ sl,e=.returned (.agg #[decide (z<0),sl])/\ae w' w.heap.size sl z/\Below w.heap.size w w':=by
 subst hz;exact vM neg ls v w base hown h hl
theorem jM (z:Int) (sl:Value) (w:World) (base:Nat) (ho:ae w base sl z) (hl:(Wh.a_ z.natAbs).length<=1000000) :
  Calls Tryz.prog 192 #[.agg #[decide (z<0),sl]] w fun e w'=>∃ sl',e=.returned (.agg #[decide (-z<0),sl'])/\ae w' w.heap.size sl' (-z)/\Below w.heap.size w w':=by
 have PT:=fun W v h=>gu (-z) (!decide (z<0)) (Wh.a_ z.natAbs) v W base h (Wh.an _) hl (by rw [Wh.bE];exact Wh.tM z)
 obtain ⟨a,cap,rfl,hm,hv⟩:=aF.view ho;clear hm hv;have ho:=DB (show aF _ _ _ _ from ho);generalize -z=y,decide (z<0)=b at *;generalize (Wh.a_ z.natAbs).length=n,decide (y<0)=b' at *;have bz:=ay.new2 w (.cells #[b,.slice a n cap] 116) (.bool false) (.slice none 0 0) 116;have hz2:=fm w (.cells #[b,.slice a n cap] 116) (.cells #[false,.slice none 0 0] 116);cases b
 all_goals
  simp only [Bool.not_true,Bool.not_false] at PT;have PT:=DB PT;go_enter Tryz.func192,Tryz.ntmps192
  go_wp2_with (go_at_call 196;(with_reducible refine (PT.out _ _ (aF.alloc (aF.alloc ho.out _) _)).mono ?_);rintro e w2 ⟨vc,rfl,hoc,hbc⟩;obtain ⟨ac,x_,rfl,hmc,Dd⟩:=aF.view hoc;have Dc:=bz.keep hbc;have c0:=Dc.c0;have c1:=Dc.c1;have g0:=Dc.f0;have g1:=Dc.f1;clear Dd hmc)
  have hr:=cL (w:=w) (w.heap.size+1) _ (.bool b') (by omega) (by rw [hz2];omega) hoc (by repeat (first | exact DE _ _ | refine aQ ?_ _ | refine aR ?_ (by assumption) | refine Below.drew ?_ | refine DD ?_ (by first | exact DF _ | exact Nat.le_add_right _ _ | (simp <;> omega)) _ | refine aN ?_ _));generalize (Wh.a_ y.natAbs).length=n2 at *;exact bodyPost_ret (v:=.agg #[b',.slice ac n2 x_]) (by simp [results,Tryz.results192,go_sem, *]) rfl (⟨_,rfl,hr.1,hr.2⟩)
theorem kk (n:Int) (w:World) (h1:-1000000000000000000<=n) (h2:n<=1000000000000000000) :
  Calls Tryz.prog 177 #[n] w fun e w'=>∃ sl,e=.returned (.agg #[decide (n<0),sl])/\ae w' w.heap.size sl n/\Below w.heap.size w w':=by
 obtain ⟨k,hk⟩:∃ k:Nat,n.natAbs=k:=⟨_,rfl⟩
 have PT:=fun (o:List Int) (W:World) (v:Value) (base:Nat) (h:aF W base v o) (hl:Wh.bD o) (hv:Wh.val o=k) (hlen:o.length<=1000000)=>gu n (decide (n<0)) o v W base h hl hlen (by rw [hv,←hk];exact Wh.qd n)
 have PA:=fun W=>dH n W (by omega) (by omega)
 rw [hk] at PA
 have hbd:(k:Int)<=1000000000000000000:=by omega
 have bx:=ay.new w (.bool false) (.slice none 0 0) 116
 by_cases hneg:n<0
 ·obtain rfl:n=-(k:Int):=by omega
  have hk0:0<(k:Int):=by omega
  have hdk:decide (-(k:Int)<0)=decide (0<k):=by rw [decide_eq_decide];omega
  rw [hdk] at PT ⊢;clear hdk;have PT:=DB PT;have PA:=DB PA;clear hk hneg h1 h2;go_enter Tryz.func177,Tryz.ntmps177
  go_wp2_with (go_at_call 53;(with_reducible refine (PA.out _).mono ?_);rintro e w1 ⟨rfl,rfl⟩)
  go_loopw [3,4] (fun vo vn wr=>∃ (m:Nat) (o:List Int),vn=.int .i64 m/\aF wr (w.heap.size+1) vo o/\Wh.bD o/\Wh.val o+10000 ^ o.length*(m:Int)=k/\m<=1000000000000000000/\o.length<=5/\Hid (ay wr w.heap.size (.bool false) (.slice none 0 0))/\Below w.heap.size w wr) (fun _ vn _=>(intOf vn).toNat)
  case atStart=>exact ⟨k,[],rfl,aF.nil _ _,(fun x hx=>by cases hx),by simp [Wh.val],by omega,by simp,DB bx,(DE _ _).alloc (DF _) _⟩
  case round=>
  clear bx;obtain ⟨m,o,rfl,hown,hls,hvl,hm18,Dw,Dr,hbr⟩:=hrel;have hls:=DB hls;have Fl:w.heap.size+1<=wr.heap.size:=Dr.out.size
  by_cases hm0:0<m
  ·have hlen:=Wh.pL hls.out hvl (by omega) (by omega)
   have hst:=Wh.kV hvl (by omega);rw [show ((m:Int) % 10000)=((m % 10000:Nat):Int) by omega,show ((m:Int) / 10000)=((m / 10000:Nat):Int) by omega] at hst;have hst:=DB hst;have hrb:m % 10000<10000:=Nat.mod_lt _ (by decide);have MQ:m / 10000<m:=Nat.div_lt_self hm0 (by decide)
   have t1:Int.tmod (m:Int) 10000=((m % 10000:Nat):Int):=by rw [Int.tmod_eq_emod_of_nonneg (by omega)];omega
   have t2:Int.tdiv (m:Int) 10000=((m / 10000:Nat):Int):=by rw [Int.tdiv_eq_ediv_of_nonneg (by omega)];omega
   generalize m / 10000=q,m % 10000=r at *;have hl2:Hid (Wh.bD (o ++ [(r:Int)])):=DB (Wh.cM hls.out fun y hy=>by rw [List.mem_singleton] at hy;subst hy;unfold Wh.lim;omega);have hl3:Hid ((o ++ [(r:Int)]).length<=5):=DB (by rw [List.length_append];simp;omega);have hown:=DB hown;clear hvl
   go_wp2_with (at_builtin;refine cw (W:=wr) (w.heap.size+1) (r:Int) _ _ rfl (.tmp 11) (.tmp 14) rfl rfl rfl hown.out (DE _ _) (by omega) (by omega) ?_;rintro v6 w6 hown6 hb6)
   go_roundw
   case rel=>exact ⟨q,o ++ [(r:Int)],rfl,hown6,hl2.out,hst.out,by omega,hl3.out,DB (Dr.out.dZ hb6 (Nat.lt_succ_self _)),hbr.trans (hb6.mono (Nat.le_succ _))⟩
   case measure=>simp [intOf];omega
  obtain rfl:m=0:=by omega
  have D4:Wh.val o=k:=by rw [←hvl];simp
  have D4:=DB D4;have hown:=DB hown;clear hvl
  go_wp2_with (go_at_call 196;(with_reducible refine (PT.out o _ _ _ hown.out hls.out D4.out (by omega)).mono ?_);rintro e w2 ⟨vc,rfl,hoc,hbc⟩;obtain ⟨ac,x_,rfl,hmc,Dd⟩:=aF.view hoc;have Dc:=Dr.out.keep hbc;have c0:=Dc.c0;have c1:=Dc.c1;have g0:=Dc.f0;have g1:=Dc.f1;clear Dd hmc)
  have hr:=cL (w:=w) w.heap.size _ (.bool (decide (0<k))) (DF _) Dr.out.size hoc (hbr.trans (hbc.mono (by omega)))
  have en:(-(k:Int)).natAbs=k:=by omega
  rw [en] at hr;generalize (Wh.a_ k).length=n2 at *;exact bodyPost_ret (v:=.agg #[decide (0<k),.slice ac n2 x_]) (by simp [results,Tryz.results177,go_sem, *]) rfl (⟨_,rfl,by unfold ae;rw [en];exact hr.1,hr.2⟩)
 obtain rfl:n=(k:Int):=by omega
 have PT:=DB PT;have PA:=DB PA;clear hk h1 h2
 have QI:0<=(k:Int):=by omega
 go_enter Tryz.func177,Tryz.ntmps177
 go_wp2_with (go_at_call 53;(with_reducible refine (PA.out _).mono ?_);rintro e w1 ⟨rfl,rfl⟩)
 go_loopw [3,4] (fun vo vn wr=>∃ (m:Nat) (o:List Int),vn=.int .i64 m/\aF wr (w.heap.size+1) vo o/\Wh.bD o/\Wh.val o+10000 ^ o.length*(m:Int)=k/\m<=1000000000000000000/\o.length<=5/\Hid (ay wr w.heap.size (.bool false) (.slice none 0 0))/\Below w.heap.size w wr) (fun _ vn _=>(intOf vn).toNat)
 case atStart=>exact ⟨k,[],rfl,aF.nil _ _,(fun x hx=>by cases hx),by simp [Wh.val],by omega,by simp,DB bx,(DE _ _).alloc (DF _) _⟩
 case round=>
 clear bx;obtain ⟨m,o,rfl,hown,hls,hvl,hm18,Dw,Dr,hbr⟩:=hrel;have hls:=DB hls;have Fl:w.heap.size+1<=wr.heap.size:=Dr.out.size
 by_cases hm0:0<m
 ·have hlen:=Wh.pL hls.out hvl (by omega) (by omega)
  have hst:=Wh.kV hvl (by omega);rw [show ((m:Int) % 10000)=((m % 10000:Nat):Int) by omega,show ((m:Int) / 10000)=((m / 10000:Nat):Int) by omega] at hst;have hst:=DB hst;have hrb:m % 10000<10000:=Nat.mod_lt _ (by decide);have MQ:m / 10000<m:=Nat.div_lt_self hm0 (by decide)
  have t1:Int.tmod (m:Int) 10000=((m % 10000:Nat):Int):=by rw [Int.tmod_eq_emod_of_nonneg (by omega)];omega
  have t2:Int.tdiv (m:Int) 10000=((m / 10000:Nat):Int):=by rw [Int.tdiv_eq_ediv_of_nonneg (by omega)];omega
  generalize m / 10000=q,m % 10000=r at *;have hl2:Hid (Wh.bD (o ++ [(r:Int)])):=DB (Wh.cM hls.out fun y hy=>by rw [List.mem_singleton] at hy;subst hy;unfold Wh.lim;omega);have hl3:Hid ((o ++ [(r:Int)]).length<=5):=DB (by rw [List.length_append];simp;omega);have hown:=DB hown;clear hvl
  go_wp2_with (at_builtin;refine cw (W:=wr) (w.heap.size+1) (r:Int) _ _ rfl (.tmp 11) (.tmp 14) rfl rfl rfl hown.out (DE _ _) (by omega) (by omega) ?_;rintro v6 w6 hown6 hb6)
  go_roundw
  case rel=>exact ⟨q,o ++ [(r:Int)],rfl,hown6,hl2.out,hst.out,by omega,hl3.out,DB (Dr.out.dZ hb6 (Nat.lt_succ_self _)),hbr.trans (hb6.mono (Nat.le_succ _))⟩
  case measure=>simp [intOf];omega
 obtain rfl:m=0:=by omega
 have D4:Wh.val o=k:=by rw [←hvl];simp
 have D4:=DB D4;have hown:=DB hown;clear hvl
 go_wp2_with (go_at_call 196;(with_reducible refine (PT.out o _ _ _ hown.out hls.out D4.out (by omega)).mono ?_);rintro e w2 ⟨vc,rfl,hoc,hbc⟩;obtain ⟨ac,x_,rfl,hmc,Dd⟩:=aF.view hoc;have Dc:=Dr.out.keep hbc;have c0:=Dc.c0;have c1:=Dc.c1;have g0:=Dc.f0;have g1:=Dc.f1;clear Dd hmc)
 have hr:=cL (w:=w) w.heap.size _ (.bool (decide ((k:Int)<0))) (DF _) Dr.out.size hoc (hbr.trans (hbc.mono (by omega)))
 have en:(k:Int).natAbs=k:=by omega
 rw [en] at hr;generalize (Wh.a_ k).length=n2 at *;exact bodyPost_ret (v:=.agg #[decide ((k:Int)<0),.slice ac n2 x_]) (by simp [results,Tryz.results177,go_sem, *]) rfl (⟨_,rfl,by unfold ae;rw [en];exact hr.1,hr.2⟩)
def kc (W:World) (base:Nat) (v:Value) (z:Int) (n:Nat):Prop:=∃ o,aF W base v o/\Wh.bD o/\Wh.val o=z/\o.length<=n
theorem xF (n:Nat):(madeCells (Value.int .i64 0).cells (n*1)).toList=(List.replicate n (0:Int)).map (Value.int .i64):=by
 show (madeCells #[Value.int .i64 0] (n*1)).toList=_
 rw [toList_madeCells_one,Nat.mul_one,List.map_replicate]
theorem me (w:World) (n:Nat) (hn:n<=1000000000):∃ w1,(Instr.makeSlice 29 (.int .i64 (n:Int)) (.int .i64 (n:Int))).run Tryz.prog w=.ok (.slice (some ⟨w.heap.size,0,none⟩) n n) w1/\
  aF w1 w.heap.size (.slice (some ⟨w.heap.size,0,none⟩) n n) (List.replicate n 0)/\w.grownBy w1 none:=by
 obtain ⟨i0,hi,hz0,hz1,hz2⟩:=info_parts lJ;obtain ⟨w1,h1,h2,h3⟩:=run_make_full (P:=Tryz.prog) w w.heap.size 29 3 i0 (.int .i64 0) 1 Tryz.underlying29 hi hz0 hz1 .i64 .i64 n (by rw [hz2];omega) (by unfold maxLen;omega) (DF _);refine ⟨w1,h1,?_,h3⟩;unfold aF;rw [←xF,List.length_replicate];exact h2
theorem gA {w:World} {base g cap n:Nat} {l:List Int} (hl:l.length=n) (h:aF w base (.slice (some ⟨g,0,none⟩) n cap) l) (i:Nat):w.frozen? ⟨g,i,none⟩=false:=by
 unfold aF at h;rw [hl] at h;exact World.ownsRow.frozenAt h i
theorem qc {l:List Int} {i n:Nat} (hl:l.length=i) (hi:i<n) (x:Int):l ++ [x] ++ List.replicate (n - (i+1)) 0=(l ++ List.replicate (n - i) 0).set i x:=by
 rw [List.set_append_right _ _ (by omega),hl,Nat.sub_self,show n - i=(n - (i+1))+1 by omega,List.replicate_succ,List.set_cons_zero];simp
theorem qP {l:List Int} {i n:Nat} (hl:l.length=i) (hi:i<n):(l ++ List.replicate (n - i) (0:Int))[i]?=some 0:=by
 rw [List.getElem?_append_right (by omega),hl,Nat.sub_self,List.getElem?_replicate,if_pos (by omega)]
theorem qM {l:List Int} {i n:Nat} (hl:l.length=i) (hi:i<=n):(l ++ List.replicate (n - i) (0:Int)).length=n:=by
 rw [List.length_append,List.length_replicate];omega
theorem ke (xs ys:List Int) (s:Int) (va vb:Value) (w:World) (ba bb:Nat) (hs:s=1∨s=-1) (hoa:aF w ba va xs) (Dp:aF w bb vb ys) (hla:Wh.bD xs) (hlb:Wh.bD ys) (hnn:0<=Wh.val xs+s*Wh.val ys) (hl1:xs.length<=100000) (hl2:ys.length<=100000) :
  Calls Tryz.prog 128 #[va,vb,s] w fun e w'=>∃ v,e=.returned v/\kc w' w.heap.size v (Wh.val xs+s*Wh.val ys) (xs.length+ys.length+1)/\Below w.heap.size w w':=by
 obtain ⟨aa,j_,rfl,hma,hva⟩:=hoa.seen;obtain ⟨ab,DM,rfl,hmb,hvb⟩:=Dp.seen;have hva:=DB hva;have hvb:=DB hvb;have hla:=DB hla;have hlb:=DB hlb;have hnn:=DB hnn;clear hma hmb hoa Dp
 by_cases hab:xs.length<ys.length
 ·obtain ⟨w1,hrun,hown1,hg1⟩:=me w (ys.length+1) (by omega)
  rw [show ((ys.length+1:Nat):Int)=(ys.length:Int)+1 by omega] at hrun;have hb1:Below w.heap.size w w1:=ck hg1 (DF _) (fun k hk=>by cases hk);clear hg1;go_enter Tryz.func128,Tryz.ntmps128
  go_wp2
  go_loopw [8,9,10,20,46,51] (fun vc _ _ vi _ _ wr=>∃ (i:Nat) (o:List Int) (c:Int),i<=ys.length+1/\vi=.int .i64 i/\vc=.int .i64 c/\aF wr w.heap.size (.slice (some ⟨w.heap.size,0,none⟩) (ys.length+1) (ys.length+1)) (o ++ List.replicate (ys.length+1 - i) 0)/\Wh.ft xs ys s i o c/\Below w.heap.size w wr) (fun _ _ _ vi _ _ _=>ys.length+1 - (intOf vi).toNat)
  case atStart=>exact ⟨0,[],0,by omega,rfl,rfl,by simpa using hown1,Wh.ft.start xs ys s,hb1⟩
  case round=>
  clear hown1 hb1;obtain ⟨i,o,c,hi,rfl,rfl,hown,hai,hbr⟩:=hrel
  by_cases hlt:i<ys.length+1
  ·have hrg:=hai.rng hs hla.out hlb.out
   have hl0:=qM hai.len hi;have hc0:=aF.cellAt hl0.symm hown (qP hai.len hlt);have hf0:wr.frozen? ⟨w.heap.size,i,none⟩=false:=gA hl0 hown i
   have hst:=DB fun x=>aF.set hl0.symm hown x (qc hai.len hlt x)
   have hstep:=DB fun x c' h1 h2 h3 h4=>hai.step (x:=x) (c':=c') h1 h2 h3 h4
   have Fl:=hbr.size;have Dk:=DB hbr;clear hown hl0 hai
   by_cases ha:i<xs.length
   ·obtain ⟨ga,xa,ea,hga,hxa,hca⟩:=hva.out i ha
    subst ea;have hca:=aE hbr hca;rw [Wh.cr hxa.out] at hrg hstep;clear hxa
    by_cases hb:i<ys.length
    ·obtain ⟨gb,xb,eb,hgb,hxb,hcb⟩:=hvb.out i hb
     subst eb;have hcb:=aE hbr hcb;have hlx:=hlb.out xb (List.mem_of_getElem? hxb.out);unfold Wh.lim at hlx
     have hsx:-9999<=s*xb/\s*xb<=9999:=by rcases hs with rfl | rfl <;> omega
     rw [Wh.cr hxb.out] at hrg hstep;generalize hsb:s*xb=sb at *;clear hxb hlx
     by_cases hx0:c+xa+sb<0
     ·skip
      have hS:=hstep.out (c+xa+sb+10000) (-1) ⟨by omega,by omega⟩ (by omega) (by intro h1;first | omega | (rcases hs with h | h <;> omega)) (by intro h1;first | omega | (rcases hs with h | h <;> omega));have hS:=DB hS;have hO:=DB (hst.out (c+xa+sb+10000));clear hstep hst;go_wp2
      go_roundw
      case rel=>exact ⟨i+1,_,_,by omega,by go_num,by go_num,hO.out.1,hS.out,Dk.out.setCell (DF _) _⟩
      case measure=>simp [intOf];omega
     by_cases hx1:10000<=c+xa+sb
     ·skip
      have hS:=hstep.out (c+xa+sb - 10000) (1) ⟨by omega,by omega⟩ (by omega) (by intro h1;first | omega | (rcases hs with h | h <;> omega)) (by intro h1;first | omega | (rcases hs with h | h <;> omega));have hS:=DB hS;have hO:=DB (hst.out (c+xa+sb - 10000));clear hstep hst;go_wp2
      go_roundw
      case rel=>exact ⟨i+1,_,_,by omega,by go_num,by go_num,hO.out.1,hS.out,Dk.out.setCell (DF _) _⟩
      case measure=>simp [intOf];omega
     skip
     have hS:=hstep.out (c+xa+sb) (0) ⟨by omega,by omega⟩ (by omega) (by intro h1;first | omega | (rcases hs with h | h <;> omega)) (by intro h1;first | omega | (rcases hs with h | h <;> omega));have hS:=DB hS;have hO:=DB (hst.out (c+xa+sb));clear hstep hst;go_wp2
     go_roundw
     case rel=>exact ⟨i+1,_,_,by omega,by go_num,by go_num,hO.out.1,hS.out,Dk.out.setCell (DF _) _⟩
     case measure=>simp [intOf];omega
    rw [Wh.co (l:=ys) (by omega),Int.mul_zero] at hrg hstep
    exfalso;omega
   rw [Wh.co (by omega)] at hrg hstep
   by_cases hb:i<ys.length
   ·obtain ⟨gb,xb,eb,hgb,hxb,hcb⟩:=hvb.out i hb
    subst eb;have hcb:=aE hbr hcb;have hlx:=hlb.out xb (List.mem_of_getElem? hxb.out);unfold Wh.lim at hlx
    have hsx:-9999<=s*xb/\s*xb<=9999:=by rcases hs with rfl | rfl <;> omega
    rw [Wh.cr hxb.out] at hrg hstep;generalize hsb:s*xb=sb at *;clear hxb hlx
    by_cases hx0:c+sb<0
    ·skip
     have hS:=hstep.out (c+sb+10000) (-1) ⟨by omega,by omega⟩ (by omega) (by intro h1;first | omega | (rcases hs with h | h <;> omega)) (by intro h1;first | omega | (rcases hs with h | h <;> omega));have hS:=DB hS;have hO:=DB (hst.out (c+sb+10000));clear hstep hst;go_wp2
     go_roundw
     case rel=>exact ⟨i+1,_,_,by omega,by go_num,by go_num,hO.out.1,hS.out,Dk.out.setCell (DF _) _⟩
     case measure=>simp [intOf];omega
    by_cases hx1:10000<=c+sb
    ·skip
     have hS:=hstep.out (c+sb - 10000) (1) ⟨by omega,by omega⟩ (by omega) (by intro h1;first | omega | (rcases hs with h | h <;> omega)) (by intro h1;first | omega | (rcases hs with h | h <;> omega));have hS:=DB hS;have hO:=DB (hst.out (c+sb - 10000));clear hstep hst;go_wp2
     go_roundw
     case rel=>exact ⟨i+1,_,_,by omega,by go_num,by go_num,hO.out.1,hS.out,Dk.out.setCell (DF _) _⟩
     case measure=>simp [intOf];omega
    skip
    have hS:=hstep.out (c+sb) (0) ⟨by omega,by omega⟩ (by omega) (by intro h1;first | omega | (rcases hs with h | h <;> omega)) (by intro h1;first | omega | (rcases hs with h | h <;> omega));have hS:=DB hS;have hO:=DB (hst.out (c+sb));clear hstep hst;go_wp2
    go_roundw
    case rel=>exact ⟨i+1,_,_,by omega,by go_num,by go_num,hO.out.1,hS.out,Dk.out.setCell (DF _) _⟩
    case measure=>simp [intOf];omega
   rw [Wh.co (l:=ys) (by omega),Int.mul_zero] at hrg hstep
   by_cases hx0:c<0
   ·skip
    have hS:=hstep.out (c+10000) (-1) ⟨by omega,by omega⟩ (by omega) (by intro h1;first | omega | (rcases hs with h | h <;> omega)) (by intro h1;first | omega | (rcases hs with h | h <;> omega));have hS:=DB hS;have hO:=DB (hst.out (c+10000));clear hstep hst;go_wp2
    go_roundw
    case rel=>exact ⟨i+1,_,_,by omega,by go_num,by go_num,hO.out.1,hS.out,Dk.out.setCell (DF _) _⟩
    case measure=>simp [intOf];omega
   by_cases hx1:10000<=c
   ·exfalso;omega
   skip
   have hS:=hstep.out (c) (0) ⟨by omega,by omega⟩ (by omega) (by intro h1;first | omega | (rcases hs with h | h <;> omega)) (by intro h1;first | omega | (rcases hs with h | h <;> omega));have hS:=DB hS;have hO:=DB (hst.out (c));clear hstep hst;go_wp2
   go_roundw
   case rel=>exact ⟨i+1,_,_,by omega,by go_num,by go_num,hO.out.1,hS.out,Dk.out.setCell (DF _) _⟩
   case measure=>simp [intOf];omega
  obtain rfl:i=ys.length+1:=by omega
  have hf:=hai.fin hs (by omega) (by omega) hnn.out (Wh.sum_lt hs hla.out hlb.out (by omega) (by omega));have hlen:=hai.len;rw [Nat.sub_self] at hown;have hres:Hid (kc wr w.heap.size (.slice (some ⟨w.heap.size,0,none⟩) (ys.length+1) (ys.length+1)) (Wh.val xs+s*Wh.val ys) (xs.length+ys.length+1)):=DB ⟨o,by simpa using hown,hai.ls,hf.2,by omega⟩;clear hown hai hf hlen;go_wp2;go_ret;exact ⟨_,rfl,hres.out,hbr⟩
 obtain ⟨w1,hrun,hown1,hg1⟩:=me w (xs.length+1) (by omega);rw [show ((xs.length+1:Nat):Int)=(xs.length:Int)+1 by omega] at hrun;have hb1:Below w.heap.size w w1:=ck hg1 (DF _) (fun k hk=>by cases hk);clear hg1;go_enter Tryz.func128,Tryz.ntmps128
 go_wp2
 go_loopw [8,9,10,20,46,51] (fun vc _ _ vi _ _ wr=>∃ (i:Nat) (o:List Int) (c:Int),i<=xs.length+1/\vi=.int .i64 i/\vc=.int .i64 c/\aF wr w.heap.size (.slice (some ⟨w.heap.size,0,none⟩) (xs.length+1) (xs.length+1)) (o ++ List.replicate (xs.length+1 - i) 0)/\Wh.ft xs ys s i o c/\Below w.heap.size w wr) (fun _ _ _ vi _ _ _=>xs.length+1 - (intOf vi).toNat)
 case atStart=>exact ⟨0,[],0,by omega,rfl,rfl,by simpa using hown1,Wh.ft.start xs ys s,hb1⟩
 case round=>
 clear hown1 hb1;obtain ⟨i,o,c,hi,rfl,rfl,hown,hai,hbr⟩:=hrel
 by_cases hlt:i<xs.length+1
 ·have hrg:=hai.rng hs hla.out hlb.out
  have hl0:=qM hai.len hi;have hc0:=aF.cellAt hl0.symm hown (qP hai.len hlt);have hf0:wr.frozen? ⟨w.heap.size,i,none⟩=false:=gA hl0 hown i
  have hst:=DB fun x=>aF.set hl0.symm hown x (qc hai.len hlt x)
  have hstep:=DB fun x c' h1 h2 h3 h4=>hai.step (x:=x) (c':=c') h1 h2 h3 h4
  have Fl:=hbr.size;have Dk:=DB hbr;clear hown hl0 hai
  by_cases ha:i<xs.length
  ·obtain ⟨ga,xa,ea,hga,hxa,hca⟩:=hva.out i ha
   subst ea;have hca:=aE hbr hca;rw [Wh.cr hxa.out] at hrg hstep;clear hxa
   by_cases hb:i<ys.length
   ·obtain ⟨gb,xb,eb,hgb,hxb,hcb⟩:=hvb.out i hb
    subst eb;have hcb:=aE hbr hcb;have hlx:=hlb.out xb (List.mem_of_getElem? hxb.out);unfold Wh.lim at hlx
    have hsx:-9999<=s*xb/\s*xb<=9999:=by rcases hs with rfl | rfl <;> omega
    rw [Wh.cr hxb.out] at hrg hstep;generalize hsb:s*xb=sb at *;clear hxb hlx
    by_cases hx0:c+xa+sb<0
    ·skip
     have hS:=hstep.out (c+xa+sb+10000) (-1) ⟨by omega,by omega⟩ (by omega) (by intro h1;first | omega | (rcases hs with h | h <;> omega)) (by intro h1;first | omega | (rcases hs with h | h <;> omega));have hS:=DB hS;have hO:=DB (hst.out (c+xa+sb+10000));clear hstep hst;go_wp2
     go_roundw
     case rel=>exact ⟨i+1,_,_,by omega,by go_num,by go_num,hO.out.1,hS.out,Dk.out.setCell (DF _) _⟩
     case measure=>simp [intOf];omega
    by_cases hx1:10000<=c+xa+sb
    ·skip
     have hS:=hstep.out (c+xa+sb - 10000) (1) ⟨by omega,by omega⟩ (by omega) (by intro h1;first | omega | (rcases hs with h | h <;> omega)) (by intro h1;first | omega | (rcases hs with h | h <;> omega));have hS:=DB hS;have hO:=DB (hst.out (c+xa+sb - 10000));clear hstep hst;go_wp2
     go_roundw
     case rel=>exact ⟨i+1,_,_,by omega,by go_num,by go_num,hO.out.1,hS.out,Dk.out.setCell (DF _) _⟩
     case measure=>simp [intOf];omega
    skip
    have hS:=hstep.out (c+xa+sb) (0) ⟨by omega,by omega⟩ (by omega) (by intro h1;first | omega | (rcases hs with h | h <;> omega)) (by intro h1;first | omega | (rcases hs with h | h <;> omega));have hS:=DB hS;have hO:=DB (hst.out (c+xa+sb));clear hstep hst;go_wp2
    go_roundw
    case rel=>exact ⟨i+1,_,_,by omega,by go_num,by go_num,hO.out.1,hS.out,Dk.out.setCell (DF _) _⟩
    case measure=>simp [intOf];omega
   rw [Wh.co (l:=ys) (by omega),Int.mul_zero] at hrg hstep
   by_cases hx0:c+xa<0
   ·skip
    have hS:=hstep.out (c+xa+10000) (-1) ⟨by omega,by omega⟩ (by omega) (by intro h1;first | omega | (rcases hs with h | h <;> omega)) (by intro h1;first | omega | (rcases hs with h | h <;> omega));have hS:=DB hS;have hO:=DB (hst.out (c+xa+10000));clear hstep hst;go_wp2
    go_roundw
    case rel=>exact ⟨i+1,_,_,by omega,by go_num,by go_num,hO.out.1,hS.out,Dk.out.setCell (DF _) _⟩
    case measure=>simp [intOf];omega
   by_cases hx1:10000<=c+xa
   ·skip
    have hS:=hstep.out (c+xa - 10000) (1) ⟨by omega,by omega⟩ (by omega) (by intro h1;first | omega | (rcases hs with h | h <;> omega)) (by intro h1;first | omega | (rcases hs with h | h <;> omega));have hS:=DB hS;have hO:=DB (hst.out (c+xa - 10000));clear hstep hst;go_wp2
    go_roundw
    case rel=>exact ⟨i+1,_,_,by omega,by go_num,by go_num,hO.out.1,hS.out,Dk.out.setCell (DF _) _⟩
    case measure=>simp [intOf];omega
   skip
   have hS:=hstep.out (c+xa) (0) ⟨by omega,by omega⟩ (by omega) (by intro h1;first | omega | (rcases hs with h | h <;> omega)) (by intro h1;first | omega | (rcases hs with h | h <;> omega));have hS:=DB hS;have hO:=DB (hst.out (c+xa));clear hstep hst;go_wp2
   go_roundw
   case rel=>exact ⟨i+1,_,_,by omega,by go_num,by go_num,hO.out.1,hS.out,Dk.out.setCell (DF _) _⟩
   case measure=>simp [intOf];omega
  rw [Wh.co (by omega)] at hrg hstep
  by_cases hb:i<ys.length
  ·obtain ⟨gb,xb,eb,hgb,hxb,hcb⟩:=hvb.out i hb
   subst eb;have hcb:=aE hbr hcb;have hlx:=hlb.out xb (List.mem_of_getElem? hxb.out);unfold Wh.lim at hlx
   have hsx:-9999<=s*xb/\s*xb<=9999:=by rcases hs with rfl | rfl <;> omega
   rw [Wh.cr hxb.out] at hrg hstep;generalize hsb:s*xb=sb at *;clear hxb hlx
   exfalso;omega
  rw [Wh.co (l:=ys) (by omega),Int.mul_zero] at hrg hstep
  by_cases hx0:c<0
  ·skip
   have hS:=hstep.out (c+10000) (-1) ⟨by omega,by omega⟩ (by omega) (by intro h1;first | omega | (rcases hs with h | h <;> omega)) (by intro h1;first | omega | (rcases hs with h | h <;> omega));have hS:=DB hS;have hO:=DB (hst.out (c+10000));clear hstep hst;go_wp2
   go_roundw
   case rel=>exact ⟨i+1,_,_,by omega,by go_num,by go_num,hO.out.1,hS.out,Dk.out.setCell (DF _) _⟩
   case measure=>simp [intOf];omega
  by_cases hx1:10000<=c
  ·exfalso;omega
  skip
  have hS:=hstep.out (c) (0) ⟨by omega,by omega⟩ (by omega) (by intro h1;first | omega | (rcases hs with h | h <;> omega)) (by intro h1;first | omega | (rcases hs with h | h <;> omega));have hS:=DB hS;have hO:=DB (hst.out (c));clear hstep hst;go_wp2
  go_roundw
  case rel=>exact ⟨i+1,_,_,by omega,by go_num,by go_num,hO.out.1,hS.out,Dk.out.setCell (DF _) _⟩
  case measure=>simp [intOf];omega
 obtain rfl:i=xs.length+1:=by omega
 have hf:=hai.fin hs (by omega) (by omega) hnn.out (Wh.sum_lt hs hla.out hlb.out (by omega) (by omega));have hlen:=hai.len;rw [Nat.sub_self] at hown;have hres:Hid (kc wr w.heap.size (.slice (some ⟨w.heap.size,0,none⟩) (xs.length+1) (xs.length+1)) (Wh.val xs+s*Wh.val ys) (xs.length+ys.length+1)):=DB ⟨o,by simpa using hown,hai.ls,hf.2,by omega⟩;clear hown hai hf hlen;go_wp2;go_ret;exact ⟨_,rfl,hres.out,hbr⟩
noncomputable def eO (n d:Int):Bool:=M.ins d 1 1000000000 && M.ins n (-1000000000) 1000000000 && (M.gcd n d == 1)
theorem oH (n d:Int) (w:World) :
  Calls Tryz.prog 100 #[.agg #[n,d]] w fun e w'=>e=.returned (.bool (eO n d))/\Below w.heap.size w w':=by
 unfold eO
 cases h1:M.ins d 1 1000000000
 ·go_enter Tryz.func100,Tryz.ntmps100
  go_wp2_with (go_at_call 28;refine (cQ _ _ _ _).mono ?_;rintro e w' ⟨rfl,rfl⟩)
  go_ret;exact ⟨d8 (by simp),(by repeat (first | exact DE _ _ | refine aQ ?_ _ | refine aR ?_ (by assumption) | refine Below.drew ?_ | refine DD ?_ (by first | exact DF _ | exact Nat.le_add_right _ _ | (simp <;> omega)) _ | refine aN ?_ _))⟩
 obtain ⟨d1,d2⟩:=M.gK h1
 cases h2:M.ins n (-1000000000) 1000000000
 ·go_enter Tryz.func100,Tryz.ntmps100
  go_wp2_with (go_at_call 28;refine (cQ _ _ _ _).mono ?_;rintro e w' ⟨rfl,rfl⟩)
  go_ret;exact ⟨d8 (by simp),(by repeat (first | exact DE _ _ | refine aQ ?_ _ | refine aR ?_ (by assumption) | refine Below.drew ?_ | refine DD ?_ (by first | exact DF _ | exact Nat.le_add_right _ _ | (simp <;> omega)) _ | refine aN ?_ _))⟩
 obtain ⟨n1,n2⟩:=M.gK h2;go_enter Tryz.func100,Tryz.ntmps100
 go_wp2_with (first | (go_at_call 28;refine (cQ _ _ _ _).mono ?_;rintro e w' ⟨rfl,rfl⟩) | (go_at_call 83;refine (qC _ _ _ (by omega) (by omega) (by omega) (by omega)).mono ?_;rintro e w' ⟨rfl,mq,rfl⟩))
 go_ret;exact ⟨d8 (by simp),(by repeat (first | exact DE _ _ | refine aQ ?_ _ | refine aR ?_ (by assumption) | refine Below.drew ?_ | refine DD ?_ (by first | exact DF _ | exact Nat.le_add_right _ _ | (simp <;> omega)) _ | refine aN ?_ _))⟩
theorem eR {P:Program} {f:FuncId} {args:Array Value} {w:World} {n:Nat} {v:Value} (h:Calls P f args (w.drewN n) fun e w'=>e=.returned v/\w.drewN n=w') :
  Calls P f args (w.drewN n) fun e w''=>e=.returned v/\∃ m,w''=w.drewN m:=h.mono fun _ _ ⟨he,hm⟩=>⟨he,n,hm.symm⟩
theorem db {P:Program} {f:FuncId} {args:Array Value} {w:World} {a n:Nat} {v:Value} (h:Calls P f args (w.drewN (a+n)) fun e w'=>e=.returned v/\w.drewN (a+n)=w') :
  Calls P f args (w.drewN (a+n)) fun e w''=>e=.returned v/\∃ m,w''=w.drewN (a+m):=h.mono fun _ _ ⟨he,hm⟩=>⟨he,n,hm.symm⟩
theorem lG (n d:Int) (w:World) :
  Calls Tryz.prog 101 #[.agg #[n,d]] w fun e w'=>e=.returned (.bool (eO n d))/\Below w.heap.size w w':=by
 unfold eO
 have E1:=fun w=>dl d 1 1000000000 w
 have E2:=fun w=>dl n (-1000000000) 1000000000 w
 have hgg:M.gcd n.natAbs d.natAbs=M.gcd n d:=by simp [M.gcd,Int.gcd]
 cases h1:M.ins d 1 1000000000 <;> simp only [h1] at E1 <;> have E1:=DB E1
 ·have E2:=DB E2
  go_enter Tryz.func101,Tryz.ntmps101
  go_wp2
  go_quiet ((go_at_call 35;first | (with_reducible exact eR (E1.out _)) | (with_reducible exact db (E1.out _)) | (with_reducible exact eR (E2.out _)) | (with_reducible exact db (E2.out _))))
  go_wp2;go_ret;exact ⟨d8 (by simp),(by repeat (first | exact DE _ _ | refine aQ ?_ _ | refine aR ?_ (by assumption) | refine Below.drew ?_ | refine DD ?_ (by first | exact DF _ | exact Nat.le_add_right _ _ | (simp <;> omega)) _ | refine aN ?_ _))⟩
 obtain ⟨d1,d2⟩:=M.gK h1
 cases h2:M.ins n (-1000000000) 1000000000 <;> simp only [h2] at E2 <;> have E2:=DB E2
 ·go_enter Tryz.func101,Tryz.ntmps101
  go_wp2
  go_quiet ((go_at_call 35;first | (with_reducible exact eR (E1.out _)) | (with_reducible exact db (E1.out _)) | (with_reducible exact eR (E2.out _)) | (with_reducible exact db (E2.out _))))
  go_wp2;go_ret;exact ⟨d8 (by simp),(by repeat (first | exact DE _ _ | refine aQ ?_ _ | refine aR ?_ (by assumption) | refine Below.drew ?_ | refine DD ?_ (by first | exact DF _ | exact Nat.le_add_right _ _ | (simp <;> omega)) _ | refine aN ?_ _))⟩
 obtain ⟨n1,n2⟩:=M.gK h2
 have hd:(d.natAbs:Int)=d:=by omega
 rw [hd] at hgg;have hgg:=DB hgg;go_enter Tryz.func101,Tryz.ntmps101
 go_wp2
 go_quiet ((first | (go_at_call 35;first | (with_reducible exact eR (E1.out _)) | (with_reducible exact db (E1.out _)) | (with_reducible exact eR (E2.out _)) | (with_reducible exact db (E2.out _))) | (go_at_call 53;first | exact eR (dH _ _ (by omega) (by omega)) | exact db (dH _ _ (by omega) (by omega))) | (go_at_call 52;first | exact eR (dK _ _ _ (by omega) (by omega) (by omega) (by omega)) | exact db (dK _ _ _ (by omega) (by omega) (by omega) (by omega)))))
 go_wp2;go_ret;exact ⟨d8 (by simp [hgg.out]),(by repeat (first | exact DE _ _ | refine aQ ?_ _ | refine aR ?_ (by assumption) | refine Below.drew ?_ | refine DD ?_ (by first | exact DF _ | exact Nat.le_add_right _ _ | (simp <;> omega)) _ | refine aN ?_ _))⟩
theorem qI (x:Int) (w:World):Calls Tryz.prog 154 #[x] w fun e w'=>e=.returned (.bool false)/\w=w':=by
 go_enter Tryz.func154,Tryz.ntmps154
 go_wp2;go_ret;exact ⟨by simp,rfl⟩
theorem vT (x y:Int) (w:World):Calls Tryz.prog 147 #[x,y] w fun e w'=>e=.returned (.int .i64 (Wh.Du x y))/\w=w':=by
 unfold Wh.Du
 by_cases h1:x<y
 ·go_enter Tryz.func147,Tryz.ntmps147
  go_wp2_with (go_at_call 154;refine (qI _ _).mono ?_;rintro e w' ⟨rfl,rfl⟩)
  go_ret;exact ⟨by simp [h1],rfl⟩
 by_cases h2:y<x
 all_goals
  go_enter Tryz.func147,Tryz.ntmps147
  go_wp2_with (go_at_call 154;refine (qI _ _).mono ?_;rintro e w' ⟨rfl,rfl⟩)
  go_ret;exact ⟨by simp [h1,h2],rfl⟩
namespace Wh
theorem zw {m n:Nat} (h:(a_ m).length≠(a_ n).length):Du ((a_ m).length:Int) ((a_ n).length:Int)=Du (m:Int) (n:Int):=by
 by_cases h':(a_ m).length<(a_ n).length
 ·have:=k9 h'
  rw [jg (by omega),jg (by omega)]
 have:=k9 (m:=n) (n:=m) (by omega);rw [oy (by omega),oy (by omega)]
end Wh
theorem er (m n:Nat) (b1 b2:Bool) (va vb:Value) (w:World) (ba bb:Nat) (hoa:aF w ba va (Wh.a_ m)) (Dp:aF w bb vb (Wh.a_ n)) (hl1:(Wh.a_ m).length<=100000) (hl2:(Wh.a_ n).length<=100000) :
  Calls Tryz.prog 129 #[.agg #[b1,va],.agg #[b2,vb]] w fun e w'=>e=.returned (.int .i64 (Wh.Du (m:Int) (n:Int)))/\Below w.heap.size w w':=by
 obtain ⟨aa,j_,rfl,hma,hva⟩:=hoa.seen;obtain ⟨ab,DM,rfl,hmb,hvb⟩:=Dp.seen;have hva:=DB hva;have hvb:=DB hvb;have hla:=DB (Wh.an m);have hlb:=DB (Wh.an n);have hv1:=DB (Wh.bE m);have hv2:=DB (Wh.bE n);clear hma hmb hoa Dp;have bx:=(ay.new w (.bool b1) (.slice aa (Wh.a_ m).length j_) 116).alloc (.cells #[b2,.slice ab (Wh.a_ n).length DM] 116);have bz:=ay.new2 w (.cells #[b1,.slice aa (Wh.a_ m).length j_] 116) (.bool b2) (.slice ab (Wh.a_ n).length DM) 116
 by_cases hne:(Wh.a_ m).length=(Wh.a_ n).length
 ·generalize Wh.a_ m=xs at *
  generalize Wh.a_ n=ys at *;generalize hxl:xs.length=L at *;have hyl:=hne.symm;have Qx:=DB hyl;rw [←hne] at bx bz hl2 hvb ⊢;clear hne hyl;have hyl:Hid (ys.length=L):=DB Qx.out;have hxl:=DB hxl;go_enter Tryz.func129,Tryz.ntmps129
  go_wp2
  go_loopw [5] (fun vi wr=>∃ k:Nat,k<=L/\vi=.int .i64 ((k:Int) - 1)/\(∀ q:Nat,k<=q->q<L->Wh.nth xs q=Wh.nth ys q)/\Hid (ay wr w.heap.size (.bool b1) (.slice aa L j_))/\Hid (ay wr (w.heap.size+1) (.bool b2) (.slice ab L DM))/\Below w.heap.size w wr) (fun vi _=>(intOf vi+1).toNat)
  case atStart=>exact ⟨L,DF _,rfl,fun q h1 h2=>by omega,DB bx,DB bz,(by repeat (first | exact DE _ _ | refine aQ ?_ _ | refine aR ?_ (by assumption) | refine Below.drew ?_ | refine DD ?_ (by first | exact DF _ | exact Nat.le_add_right _ _ | (simp <;> omega)) _ | refine aN ?_ _))⟩
  case round=>
  clear bx bz;obtain ⟨k,hk,rfl,heq,Dr,Fh,hbr⟩:=hrel;have heq:=DB heq
  cases k with
  | zero=>
   have hz:Hid (Wh.Du (m:Int) (n:Int)=0):=DB (by
    rw [←hv1.out,←hv2.out]
    exact Wh.cmp_eq (n:=L) (by rw [hxl.out];exact DF _) (by rw [hyl.out];exact DF _) fun q h=>heq.out q (Nat.zero_le _) h)
   go_wp2;go_ret;exact ⟨by rw [hz.out] <;> rfl,hbr⟩
  | succ j=>
  obtain ⟨ga,x,ea,hga,hxa,hca⟩:=hva.out j (by omega);obtain ⟨gb,y,eb,hgb,hxb,hcb⟩:=hvb.out j (by omega);subst ea eb;have hca:=aE hbr hca;have hcb:=aE hbr hcb;have d1:=Dr.out.c1;have d2:=Fh.out.c1;have hnx:=DB (Wh.cr hxa.out);have hny:=DB (Wh.cr hxb.out)
  by_cases hxy:x=y
  ·subst hxy
   have heq2:Hid (∀ q:Nat,j<=q->q<L->Wh.nth xs q=Wh.nth ys q):=DB fun q h1 h2=>by
    by_cases hq:q=j
    ·subst hq;rw [hnx.out,hny.out]
    exact heq.out q (by omega) h2
   go_wp2
   go_quiet (fail)
   go_wp2
   go_roundw
   case rel=>exact ⟨j,by omega,by go_num,heq2.out,DB (Dr.out.keep (aN (DE _ _) _)),DB (Fh.out.keep (aN (DE _ _) _)),aN hbr _⟩
   case measure=>first | (simp [intOf];done) | (simp [intOf];omega)
  have hz:Hid (Wh.Du (m:Int) (n:Int)=Wh.Du x y):=DB (by
   rw [←hv1.out,←hv2.out]
   have l1:xs.length<=L:=by rw [hxl.out];exact DF _
   have l2:ys.length<=L:=by rw [hyl.out];exact DF _
   by_cases hlt:x<y
   ·rw [Wh.jg hlt]
    exact Wh.vV hla.out hlb.out l1 l2 (i:=j) (by omega) (fun q h1 h2=>heq.out q (by omega) h2) (by rw [hnx.out,hny.out];exact hlt)
   rw [Wh.oy (x:=x) (y:=y) (by omega)]
   exact Wh.vU hla.out hlb.out l1 l2 (i:=j) (by omega) (fun q h1 h2=>heq.out q (by omega) h2) (by rw [hnx.out,hny.out];omega))
  have PC:=fun W=>vT x y W
  generalize Wh.Du x y=z at *;have PC:=DB PC;go_wp2
  go_quiet (fail)
  go_wp2
  go_quiet ((go_at_call 147;first | (with_reducible exact eR (PC.out _)) | (with_reducible exact db (PC.out _))))
  go_wp2;go_ret;exact ⟨by rw [hz.out] <;> rfl,aN (aN hbr _) _⟩
 have PC:=fun W=>vT (Wh.a_ m).length (Wh.a_ n).length W
 rw [Wh.zw hne] at PC;generalize Wh.Du (m:Int) (n:Int)=z at *;generalize (Wh.a_ n).length=l2,(Wh.a_ m).length=l1 at *;have PC:=DB PC;clear hva hvb hla hlb hv1 hv2;go_enter Tryz.func129,Tryz.ntmps129
 go_wp2_with (go_at_call 147;(with_reducible refine (PC.out _).mono ?_);rintro e w1 ⟨rfl,rfl⟩)
 go_ret;exact ⟨rfl,(by repeat (first | exact DE _ _ | refine aQ ?_ _ | refine aR ?_ (by assumption) | refine Below.drew ?_ | refine DD ?_ (by first | exact DF _ | exact Nat.le_add_right _ _ | (simp <;> omega)) _ | refine aN ?_ _))⟩
theorem gH (z y:Int) (n:Nat) (neg:Bool) (v:Value) (w:World) (base:Nat) (ho:kc w base v y n) (hn:n<=1000000) (hz:Wh.Dv neg y=z) :
  Calls Tryz.prog 127 #[neg,v] w fun e w'=>∃ sl,e=.returned (.agg #[decide (z<0),sl])/\ae w' w.heap.size sl z/\Below w.heap.size w w':=by
 obtain ⟨o,h1,h2,h3,h4⟩:=ho;exact gI z neg o v w base h1 h2 (by omega) (by rw [h3];exact hz)
theorem ai {W:World} {p:Addr} {v:Value} (h:W.cell? p=some v):(W.drew).cell? p=some v:=h
theorem ay.store {w:World} {b:Nat} {u v:Value} (h:ay w b u v) (x y:Value):ay ((w.setCell ⟨b,0,none⟩ x).setCell ⟨b,1,none⟩ y) b x y:=by
 obtain ⟨h1,h2,h3,h4,h5⟩:=h;exact ⟨by simp [go_sem, *],by simp [go_sem, *],by simp [go_sem, *],by simp [go_sem, *],by simp [go_sem, *]⟩
theorem ay.other {w:World} {b c:Nat} {u v:Value} (h:ay w b u v) (hn:b≠c) (x y:Value):ay ((w.setCell ⟨c,0,none⟩ x).setCell ⟨c,1,none⟩ y) b u v:=
 have hg:=cO w c x y
 have hn':some b≠some c:=by simpa using hn
 ⟨hg.cell h.c0 hn',hg.cell h.c1 hn',(Gr.frozen hg h.size hn').trans h.f0,(Gr.frozen hg h.size hn').trans h.f1,Gr.lZ hg h.size⟩
theorem ay.drew {w:World} {b:Nat} {u v:Value} (h:ay w b u v):ay w.drew b u v:=⟨h.c0,h.c1,h.f0,h.f1,h.size⟩
namespace Wh
theorem add_same {a b:Int} {s:Bool} (ha:decide (a<0)=s) (hb:decide (b<0)=s):Dv s ((a.natAbs:Int)+1*(b.natAbs:Int))=a+b:=by
 cases s
 ·simp only [decide_eq_false_iff_not] at ha hb;simp only [Dv,Bool.false_eq_true,if_false];omega
 simp only [decide_eq_true_eq] at ha hb;simp only [Dv,if_true];omega
theorem io {a b:Int} {s:Bool} (ha:decide (a<0)=s) (hb:decide (b<0)=!s):Dv s ((a.natAbs:Int)+-1*(b.natAbs:Int))=a+b:=by
 cases s
 ·simp only [decide_eq_false_iff_not,Bool.not_false,decide_eq_true_eq] at ha hb;simp only [Dv,Bool.false_eq_true,if_false];omega
 simp only [decide_eq_true_eq,Bool.not_true,decide_eq_false_iff_not] at ha hb;simp only [Dv,if_true];omega
end Wh
theorem gR (a b:Int) (va vb:Value) (w:World) (ba bb:Nat) (hoa:ae w ba va a) (Dp:ae w bb vb b) (hl1:(Wh.a_ a.natAbs).length<=10000) (hl2:(Wh.a_ b.natAbs).length<=10000) :
  Calls Tryz.prog 89 #[.agg #[decide (a<0),va],.agg #[decide (b<0),vb]] w fun e w'=>∃ sl,e=.returned (.agg #[decide (a+b<0),sl])/\ae w' w.heap.size sl (a+b)/\Below w.heap.size w w':=by
 obtain ⟨aa,j_,rfl,-,-⟩:=aF.view hoa;obtain ⟨ab,DM,rfl,-,-⟩:=aF.view Dp
 have PA:=fun s hs h0 W h1 h2=>ke (Wh.a_ a.natAbs) (Wh.a_ b.natAbs) s (.slice aa (Wh.a_ a.natAbs).length j_) (.slice ab (Wh.a_ b.natAbs).length DM) W ba bb hs h1 h2 (Wh.an _) (Wh.an _) h0 (by omega) (by omega)
 rw [Wh.bE,Wh.bE] at PA
 have PT:=fun s y (h:Wh.Dv s y=a+b) W v base ho=>gH (a+b) y ((Wh.a_ a.natAbs).length+(Wh.a_ b.natAbs).length+1) s v W base ho (by omega) h
 have FV:Hid (∀ W,Below w.heap.size w W->aF W ba (.slice aa (Wh.a_ a.natAbs).length j_) (Wh.a_ a.natAbs)):=DB fun W h=>aF.below hoa h
 have GV:Hid (∀ W,Below w.heap.size w W->aF W bb (.slice ab (Wh.a_ b.natAbs).length DM) (Wh.a_ b.natAbs)):=DB fun W h=>aF.below Dp h
 obtain ⟨s1,hs1⟩:∃ s,decide (a<0)=s:=⟨_,rfl⟩
 obtain ⟨s2,hs2⟩:∃ s,decide (b<0)=s:=⟨_,rfl⟩
 clear hoa Dp
 by_cases hss:s1=s2
 ·subst hss
  have PT:=DB (PT s1 _ (Wh.add_same hs1 hs2));have PA:=DB (PA 1 (Or.inl rfl) (by omega));rw [hs1,hs2];clear hs1 hs2;generalize (a.natAbs:Int)+1*(b.natAbs:Int)=y at *;generalize Wh.a_ b.natAbs=ys,Wh.a_ a.natAbs=xs,a+b=z at *;generalize decide (z<0)=s,ys.length=l2,xs.length=l1 at *;obtain ⟨w3,hw3,b1,b2,b3,hB⟩:=fy w (.bool s1) (.slice aa l1 j_) 116 (.bool s1) (.slice ab l2 DM) 116 (.bool false) (.slice none 0 0) 116;have e1:=b1.c0;have e2:=b1.c1;have e3:=b2.c0;have e4:=b2.c1;go_enter Tryz.func89,Tryz.ntmps89
  go_wp2
  go_region_held3 (fun W=>W.cell? ⟨w.heap.size,0,none⟩=some (.bool s1)/\W.cell? ⟨w.heap.size,1,none⟩=some (.slice aa l1 j_)/\W.cell? ⟨w.heap.size+1,0,none⟩=some (.bool s1)/\W.cell? ⟨w.heap.size+1,1,none⟩=some (.slice ab l2 DM)) (first | (refine ⟨?_,?_,?_,?_⟩ <;> (first | (with_reducible exact aE (by assumption) (by assumption)) | (with_reducible exact Gr.bJ (by assumption)) | (with_reducible refine Gr.bp (by assumption) ?_;(intro DI;(try simp only [DC,aP,World.heap_drewN,aK] at DI);omega)) | (with_reducible refine Gr.eN (by assumption) ?_ ?_ <;> (intro DI;(try simp only [DC,aP,World.heap_drewN,aK] at DI);omega)) | exact aE (by assumption) (by assumption) | (with_reducible exact bI (by assumption) (by assumption) (by assumption)))) | (go_split_ands;(refine ⟨?_,?_,?_,?_⟩ <;> (first | (with_reducible exact aE (by assumption) (by assumption)) | (with_reducible exact Gr.bJ (by assumption)) | (with_reducible refine Gr.bp (by assumption) ?_;(intro DI;(try simp only [DC,aP,World.heap_drewN,aK] at DI);omega)) | (with_reducible refine Gr.eN (by assumption) ?_ ?_ <;> (intro DI;(try simp only [DC,aP,World.heap_drewN,aK] at DI);omega)) | exact aE (by assumption) (by assumption) | (with_reducible exact bI (by assumption) (by assumption) (by assumption))))) | go_keep) ((first
   | (go_at_call 128;(with_reducible refine (PA.out _ (FV.out _ hB.drew) (GV.out _ hB.drew)).mono ?_);rintro e w4 ⟨v4,rfl,DS,hb4⟩;have B4:=hB.drew.trans (hb4.mono hB.size);have r4:=b3.drew.keep hb4;have EX:=aE hb4 (ai e1);have FD:=aE hb4 (ai e2);have GG:=aE hb4 (ai e3);have Gi:=aE hb4 (ai e4);(have z4:w3.heap.size<=w4.heap.size:=hb4.size))
   | (go_at_call 127;(with_reducible refine (PT.out _ _ _ DS).mono ?_);rintro e w5 ⟨vc,rfl,hoc,hbc⟩;obtain ⟨ac,x_,rfl,hmc,Dd⟩:=aF.view hoc;have B5:=d_ B4 hbc;have r5:=r4.keep hbc;have c0:=r5.c0;have c1:=r5.c1;have g0:=r5.f0;have g1:=r5.f1;have Gs:=aE hbc EX;have Hk:=aE hbc FD;have J6:=aE hbc GG;have KM:=aE hbc Gi;clear Dd hmc)
   | fail "ARMS"))
  all_goals
   have hr:=cL (w:=w) (w.heap.size+1+1) _ (.bool s) (by omega) (Nat.lt_of_lt_of_le b3.size z4) hoc B5;generalize (Wh.a_ z.natAbs).length=n2 at *;go_wp2;exact bodyPost_ret (v:=.agg #[s,.slice ac n2 x_]) (by simp [results,Tryz.results89,go_sem, *]) rfl (⟨_,rfl,hr.1,hr.2⟩)
 have PA':=fun s hs h0 W h1 h2=>ke (Wh.a_ b.natAbs) (Wh.a_ a.natAbs) s (.slice ab (Wh.a_ b.natAbs).length DM) (.slice aa (Wh.a_ a.natAbs).length j_) W bb ba hs h1 h2 (Wh.an _) (Wh.an _) h0 (by omega) (by omega)
 rw [Wh.bE,Wh.bE] at PA'
 have J_:=fun s y (h:Wh.Dv s y=a+b) W v base ho=>gH (a+b) y ((Wh.a_ b.natAbs).length+(Wh.a_ a.natAbs).length+1) s v W base ho (by omega) h
 obtain rfl:s2=!s1:=by cases s1 <;> cases s2 <;> simp_all
 have hsn:(s1 == !s1)=false:=by cases s1 <;> rfl
 clear hss;have hd:=Wh.io (a:=a) (b:=b) hs1 hs2;have hd':=Wh.io (a:=b) (b:=a) hs2 (by rw [Bool.not_not];exact hs1);rw [Int.add_comm b a] at hd'
 have PM:=fun W h1 h2=>er a.natAbs b.natAbs s1 (!s1) (.slice aa (Wh.a_ a.natAbs).length j_) (.slice ab (Wh.a_ b.natAbs).length DM) W ba bb h1 h2 (by omega) (by omega)
 rw [hs1,hs2];clear hs1 hs2
 by_cases hlt:a.natAbs<b.natAbs
 ·skip
  have PT:=DB (J_ (!s1) _ hd');have PA:=DB (PA' (-1) (Or.inr rfl) (by omega));rw [Wh.jg (by omega)] at PM;have PM:=DB PM;clear hlt hd hd';generalize (b.natAbs:Int)+-1*(a.natAbs:Int)=y at *;generalize Wh.a_ b.natAbs=ys,Wh.a_ a.natAbs=xs,a+b=z at *;generalize decide (z<0)=s,ys.length=l2,xs.length=l1 at *;obtain ⟨w3,hw3,b1,b2,b3,hB⟩:=fy w (.bool s1) (.slice aa l1 j_) 116 (.bool (!s1)) (.slice ab l2 DM) 116 (.bool false) (.slice none 0 0) 116;have i1:=b1.c0;have i2:=b1.c1;have i3:=b2.c0;have i4:=b2.c1;go_enter Tryz.func89,Tryz.ntmps89
  go_wp2_with (go_at_call 129;(with_reducible refine (PM.out _ (FV.out _ hB) (GV.out _ hB)).mono ?_);rintro e wm ⟨rfl,EY⟩;have m1:=b1.keep EY;have m2:=b2.keep EY;have m3:=b3.keep EY;have j1:=m1.c0;have j2:=m1.c1;have j3:=m2.c0;have j4:=m2.c1;have k1:=m1.f0;have k2:=m1.f1;have k3:=m2.f0;have k4:=m2.f1;have Bm:=d_ hB EY)
  have n1:=(m1.store (.bool (!s1)) (.slice ab l2 DM)).other (c:=w.heap.size+1) (by omega) (.bool s1) (.slice aa l1 j_);have n2:=(m2.other (c:=w.heap.size) (by omega) (.bool (!s1)) (.slice ab l2 DM)).store (.bool s1) (.slice aa l1 j_);have n3:=(m3.other (c:=w.heap.size) (by omega) (.bool (!s1)) (.slice ab l2 DM)).other (c:=w.heap.size+1) (by omega) (.bool s1) (.slice aa l1 j_);have Bn:=(((Bm.setCell (p:=⟨w.heap.size,0,none⟩) (DF _) (.bool (!s1))).setCell (p:=⟨w.heap.size,1,none⟩) (DF _) (.slice ab l2 DM)).setCell (p:=⟨w.heap.size+1,0,none⟩) (Nat.le_succ _) (.bool s1)).setCell (p:=⟨w.heap.size+1,1,none⟩) (Nat.le_succ _) (.slice aa l1 j_);generalize hwn:((((wm.setCell ⟨w.heap.size,0,none⟩ (.bool (!s1))).setCell ⟨w.heap.size,1,none⟩ (.slice ab l2 DM)).setCell ⟨w.heap.size+1,0,none⟩ (.bool s1)).setCell ⟨w.heap.size+1,1,none⟩ (.slice aa l1 j_))=wn at *;clear i1 i2 i3 i4 j1 j2 j3 j4 k1 k2 k3 k4 m1 m2 m3 b1 b2 b3 EY;have e1:=n1.c0;have e2:=n1.c1;have e3:=n2.c0;have e4:=n2.c1
  go_region_held3 (fun W=>W.cell? ⟨w.heap.size,0,none⟩=some (.bool (!s1))/\W.cell? ⟨w.heap.size,1,none⟩=some (.slice ab l2 DM)/\W.cell? ⟨w.heap.size+1,0,none⟩=some (.bool s1)/\W.cell? ⟨w.heap.size+1,1,none⟩=some (.slice aa l1 j_)) (first | (refine ⟨?_,?_,?_,?_⟩ <;> (first | (with_reducible exact aE (by assumption) (by assumption)) | (with_reducible exact Gr.bJ (by assumption)) | (with_reducible refine Gr.bp (by assumption) ?_;(intro DI;(try simp only [DC,aP,World.heap_drewN,aK] at DI);omega)) | (with_reducible refine Gr.eN (by assumption) ?_ ?_ <;> (intro DI;(try simp only [DC,aP,World.heap_drewN,aK] at DI);omega)) | exact aE (by assumption) (by assumption) | (with_reducible exact bI (by assumption) (by assumption) (by assumption)))) | (go_split_ands;(refine ⟨?_,?_,?_,?_⟩ <;> (first | (with_reducible exact aE (by assumption) (by assumption)) | (with_reducible exact Gr.bJ (by assumption)) | (with_reducible refine Gr.bp (by assumption) ?_;(intro DI;(try simp only [DC,aP,World.heap_drewN,aK] at DI);omega)) | (with_reducible refine Gr.eN (by assumption) ?_ ?_ <;> (intro DI;(try simp only [DC,aP,World.heap_drewN,aK] at DI);omega)) | exact aE (by assumption) (by assumption) | (with_reducible exact bI (by assumption) (by assumption) (by assumption))))) | go_keep) ((first
   | (go_at_call 128;(with_reducible refine (PA.out _ (GV.out _ Bn.drew) (FV.out _ Bn.drew)).mono ?_);rintro e w4 ⟨v4,rfl,DS,hb4⟩;have B4:=Bn.drew.trans (hb4.mono Bn.size);have r4:=n3.drew.keep hb4;have EX:=aE hb4 (ai e1);have FD:=aE hb4 (ai e2);have GG:=aE hb4 (ai e3);have Gi:=aE hb4 (ai e4);(have z4:wn.heap.size<=w4.heap.size:=hb4.size))
   | (go_at_call 127;(with_reducible refine (PT.out _ _ _ DS).mono ?_);rintro e w5 ⟨vc,rfl,hoc,hbc⟩;obtain ⟨ac,x_,rfl,hmc,Dd⟩:=aF.view hoc;have B5:=d_ B4 hbc;have r5:=r4.keep hbc;have c0:=r5.c0;have c1:=r5.c1;have g0:=r5.f0;have g1:=r5.f1;have Gs:=aE hbc EX;have Hk:=aE hbc FD;have J6:=aE hbc GG;have KM:=aE hbc Gi;clear Dd hmc)
   | fail "ARMS"))
  all_goals
   have hr:=cL (w:=w) (w.heap.size+1+1) _ (.bool s) (by omega) (Nat.lt_of_lt_of_le n3.size z4) hoc B5;generalize (Wh.a_ z.natAbs).length=D2 at *;go_wp2;exact bodyPost_ret (v:=.agg #[s,.slice ac D2 x_]) (by simp [results,Tryz.results89,go_sem, *]) rfl (⟨_,rfl,hr.1,hr.2⟩)
 skip
 have PT:=DB (PT s1 _ hd);have PA:=DB (PA (-1) (Or.inr rfl) (by omega))
 have hr0:¬ Wh.Du (a.natAbs:Int) (b.natAbs:Int)<0:=by unfold Wh.Du;rw [if_neg (by omega)];split <;> omega
 generalize Wh.Du (a.natAbs:Int) (b.natAbs:Int)=rr at *;have PM:=DB PM;clear hlt hd hd';generalize (a.natAbs:Int)+-1*(b.natAbs:Int)=y at *;generalize Wh.a_ b.natAbs=ys,Wh.a_ a.natAbs=xs,a+b=z at *;generalize decide (z<0)=s,ys.length=l2,xs.length=l1 at *;obtain ⟨w3,hw3,b1,b2,b3,hB⟩:=fy w (.bool s1) (.slice aa l1 j_) 116 (.bool (!s1)) (.slice ab l2 DM) 116 (.bool false) (.slice none 0 0) 116;have i1:=b1.c0;have i2:=b1.c1;have i3:=b2.c0;have i4:=b2.c1;go_enter Tryz.func89,Tryz.ntmps89
 go_wp2_with (go_at_call 129;(with_reducible refine (PM.out _ (FV.out _ hB) (GV.out _ hB)).mono ?_);rintro e wm ⟨rfl,EY⟩;have m1:=b1.keep EY;have m2:=b2.keep EY;have m3:=b3.keep EY;have j1:=m1.c0;have j2:=m1.c1;have j3:=m2.c0;have j4:=m2.c1;have k1:=m1.f0;have k2:=m1.f1;have k3:=m2.f0;have k4:=m2.f1;have Bm:=d_ hB EY)
 have n1:=m1;have n2:=m2;have n3:=m3;have Bn:=Bm;clear i1 i2 i3 i4 j1 j2 j3 j4 k1 k2 k3 k4 m1 m2 m3 b1 b2 b3 EY;have e1:=n1.c0;have e2:=n1.c1;have e3:=n2.c0;have e4:=n2.c1
 go_region_held3 (fun W=>W.cell? ⟨w.heap.size,0,none⟩=some (.bool s1)/\W.cell? ⟨w.heap.size,1,none⟩=some (.slice aa l1 j_)/\W.cell? ⟨w.heap.size+1,0,none⟩=some (.bool (!s1))/\W.cell? ⟨w.heap.size+1,1,none⟩=some (.slice ab l2 DM)) (first | (refine ⟨?_,?_,?_,?_⟩ <;> (first | (with_reducible exact aE (by assumption) (by assumption)) | (with_reducible exact Gr.bJ (by assumption)) | (with_reducible refine Gr.bp (by assumption) ?_;(intro DI;(try simp only [DC,aP,World.heap_drewN,aK] at DI);omega)) | (with_reducible refine Gr.eN (by assumption) ?_ ?_ <;> (intro DI;(try simp only [DC,aP,World.heap_drewN,aK] at DI);omega)) | exact aE (by assumption) (by assumption) | (with_reducible exact bI (by assumption) (by assumption) (by assumption)))) | (go_split_ands;(refine ⟨?_,?_,?_,?_⟩ <;> (first | (with_reducible exact aE (by assumption) (by assumption)) | (with_reducible exact Gr.bJ (by assumption)) | (with_reducible refine Gr.bp (by assumption) ?_;(intro DI;(try simp only [DC,aP,World.heap_drewN,aK] at DI);omega)) | (with_reducible refine Gr.eN (by assumption) ?_ ?_ <;> (intro DI;(try simp only [DC,aP,World.heap_drewN,aK] at DI);omega)) | exact aE (by assumption) (by assumption) | (with_reducible exact bI (by assumption) (by assumption) (by assumption))))) | go_keep) ((first
  | (go_at_call 128;(with_reducible refine (PA.out _ (FV.out _ Bn.drew) (GV.out _ Bn.drew)).mono ?_);rintro e w4 ⟨v4,rfl,DS,hb4⟩;have B4:=Bn.drew.trans (hb4.mono Bn.size);have r4:=n3.drew.keep hb4;have EX:=aE hb4 (ai e1);have FD:=aE hb4 (ai e2);have GG:=aE hb4 (ai e3);have Gi:=aE hb4 (ai e4);(have z4:wm.heap.size<=w4.heap.size:=hb4.size))
  | (go_at_call 127;(with_reducible refine (PT.out _ _ _ DS).mono ?_);rintro e w5 ⟨vc,rfl,hoc,hbc⟩;obtain ⟨ac,x_,rfl,hmc,Dd⟩:=aF.view hoc;have B5:=d_ B4 hbc;have r5:=r4.keep hbc;have c0:=r5.c0;have c1:=r5.c1;have g0:=r5.f0;have g1:=r5.f1;have Gs:=aE hbc EX;have Hk:=aE hbc FD;have J6:=aE hbc GG;have KM:=aE hbc Gi;clear Dd hmc)
  | fail "ARMS"))
 all_goals
  have hr:=cL (w:=w) (w.heap.size+1+1) _ (.bool s) (by omega) (Nat.lt_of_lt_of_le n3.size z4) hoc B5;generalize (Wh.a_ z.natAbs).length=D2 at *;go_wp2;exact bodyPost_ret (v:=.agg #[s,.slice ac D2 x_]) (by simp [results,Tryz.results89,go_sem, *]) rfl (⟨_,rfl,hr.1,hr.2⟩)
namespace Wh
theorem sw (a b:Int):Dv (decide (a<0) != decide (b<0)) ((a.natAbs:Int)*(b.natAbs:Int))=a*b:=by
 rcases Int.natAbs_eq a with ha | ha <;> rcases Int.natAbs_eq b with hb | hb
 all_goals
  generalize b.natAbs=n,a.natAbs=m at *;subst ha hb
 ·rw [decide_eq_false (by omega),decide_eq_false (by omega)];rfl
 ·by_cases h:n=0
  ·subst h;simp [Dv]
  rw [decide_eq_false (by omega),decide_eq_true (by omega)]
  show -((m:Int)*(n:Int))=(m:Int)*-(n:Int)
  rw [Int.mul_neg]
 ·by_cases h:m=0
  ·subst h;simp [Dv]
  rw [decide_eq_true (by omega),decide_eq_false (by omega)]
  show -((m:Int)*(n:Int))=-(m:Int)*(n:Int)
  rw [Int.neg_mul]
 by_cases h:m=0
 ·subst h;simp [Dv]
 by_cases h':n=0
 ·subst h';simp [Dv]
 rw [decide_eq_true (by omega),decide_eq_true (by omega)]
 show (m:Int)*(n:Int)=-(m:Int)*-(n:Int)
 rw [Int.neg_mul_neg]
theorem CE (n:Nat):bD (List.replicate n 0):=fun x hx=>by rw [(List.mem_replicate.1 hx).2];exact ⟨Int.le_refl _,by decide⟩
theorem yT:∀ n:Nat,val (List.replicate n 0)=0
 | 0=>rfl
 | n+1=>by
  rw [List.replicate_succ]
  show 0+10000*val (List.replicate n 0)=0
  rw [yT n];rfl
theorem MInv.BZ {o0 o:List Int} {x:Int} {b:List Int} {i k:Nat} {c:Int} (h:MInv o0 o x b i k c):o[k]?=o0[k]?:=by
 have:=congrArg (fun l:List Int=>l[0]?) h.rest
 simpa [List.getElem?_drop] using this
end Wh
theorem cn (a b:Int) (va vb:Value) (w:World) (ba bb:Nat) (hoa:ae w ba va a) (Dp:ae w bb vb b) (hl1:(Wh.a_ a.natAbs).length<=10000) (hl2:(Wh.a_ b.natAbs).length<=10000) :
  Calls Tryz.prog 87 #[.agg #[decide (a<0),va],.agg #[decide (b<0),vb]] w fun e w'=>∃ sl,e=.returned (.agg #[decide (a*b<0),sl])/\ae w' w.heap.size sl (a*b)/\Below w.heap.size w w':=by
 obtain ⟨aa,j_,rfl,hma,hva⟩:=aF.seen hoa;obtain ⟨ab,DM,rfl,hmb,hvb⟩:=aF.seen Dp;have hva:=DB hva;have hvb:=DB hvb;have hla:=DB (Wh.an a.natAbs);have hlb:=DB (Wh.an b.natAbs)
 have PT:=fun W v base ho=>gH (a*b) ((a.natAbs:Int)*(b.natAbs:Int)) ((Wh.a_ a.natAbs).length+(Wh.a_ b.natAbs).length+1) (decide (a<0) != decide (b<0)) v W base ho (by omega) (Wh.sw a b)
 have hpr:Hid (∀ (x y:List Int),x=Wh.a_ a.natAbs->y=Wh.a_ b.natAbs->Wh.val x*Wh.val y=(a.natAbs:Int)*(b.natAbs:Int)):=DB fun x y h1 h2=>by rw [h1,h2,Wh.bE,Wh.bE]
 have hpr:=DB (hpr.out _ _ rfl rfl);generalize decide (b<0)=s2,decide (a<0)=s1 at *;generalize (a.natAbs:Int)*(b.natAbs:Int)=y at *;generalize a*b=z at *;generalize Wh.a_ b.natAbs=ys,Wh.a_ a.natAbs=xs,decide (z<0)=s at *;clear hma hmb hoa Dp;obtain ⟨w3,hw3,b1,b2,b3,hB⟩:=fy w (.bool s1) (.slice aa xs.length j_) 116 (.bool s2) (.slice ab ys.length DM) 116 (.bool false) (.slice none 0 0) 116;obtain ⟨w4,hrun,hown1,hg1⟩:=me w3 (xs.length+ys.length+1) (by omega);rw [show ((xs.length+ys.length+1:Nat):Int)=(xs.length:Int)+(ys.length:Int)+1 by omega] at hrun;have hb4:Below w3.heap.size w3 w4:=ck hg1 (DF _) (fun k hk=>by cases hk);have hB3:=DB hB;have e2:=b1.c1;have e4:=b2.c1;have k2:=b1.keep hb4;have k4:=b2.keep hb4;have f2:=k2.c1;have f4:=k4.c1;clear hg1;go_enter Tryz.func87,Tryz.ntmps87
 go_wp2;have F3:=DB b1;have F4:=DB b2;have Iq:=DB b3;clear e2 e4 k2 k4 f2 f4 b1 b2 b3 hB
 go_loopw [6,7,8,9,10,23] (fun _ _ _ _ _ vi wr=>∃ (i:Nat) (o:List Int),i<=xs.length/\vi=.int .i64 i/\aF wr w3.heap.size (.slice (some ⟨w3.heap.size,0,none⟩) (xs.length+ys.length+1) (xs.length+ys.length+1)) o/\o.length=(xs.length+ys.length+1)/\Wh.bD o/\Wh.val o=Wh.val (xs.take i)*Wh.val ys/\Below w3.heap.size w3 wr) (fun _ _ _ _ _ vi _=>xs.length - (intOf vi).toNat)
 case atStart=>exact ⟨0,List.replicate (xs.length+ys.length+1) 0,Nat.zero_le _,rfl,hown1,List.length_replicate,Wh.CE _,by rw [Wh.yT];simp [Wh.val],hb4⟩
 case round=>
 clear hown1 hb4;obtain ⟨i,o,hi,rfl,hown,hlen,hls,Je,hbr⟩:=hrel;have hlen:=DB hlen;have hls:=DB hls;have Je:=DB Je;have c1:=F3.out.dZ hbr F3.out.size;have c2:=F4.out.dZ hbr F4.out.size;have c3:=Iq.out.dZ hbr Iq.out.size;have hwr:Below w.heap.size w wr:=hB3.out.trans (hbr.mono hB3.out.size)
 by_cases hlt:i<xs.length
 ·obtain ⟨ga,x,ea,hga,hxa,hca⟩:=hva.out i hlt
  subst ea;have F9:=aE hwr hca;have hlx:=DB (hla.out x (List.mem_of_getElem? hxa.out));have hrow:=DB (Wh.xT hxa.out Je.out);have QL:=DB (Wh.tG (n:=(xs.length+ys.length+1)) (Wh.fd hla.out (i+1)) hlb.out (by rw [List.length_take];omega));have d2:=c1.c1;have d4:=c2.c1;clear hca c1 c2 c3 hwr;go_wp2
  go_loopw [8,9,10] (fun vc vk _ wq=>∃ (d:Nat) (p:List Int) (c:Int),i+d<=(xs.length+ys.length+1)/\vk=.int .i64 ((i+d:Nat):Int)/\vc=.int .i64 c/\aF wq w3.heap.size (.slice (some ⟨w3.heap.size,0,none⟩) (xs.length+ys.length+1) (xs.length+ys.length+1)) p/\Wh.MInv o p x ys i (i+d) c/\Below w3.heap.size w3 wq) (fun _ vk _ _=>(xs.length+ys.length+1) - (intOf vk).toNat)
  case atStart=>exact ⟨0,o,0,by omega,rfl,rfl,hown,Wh.MInv.start hls.out x ys i,hbr⟩
  case round=>
  clear hown hbr F9 d2 d4;obtain ⟨d,p,c,hd,rfl,rfl,hown,EL,hbq⟩:=hrel;have c1:=F3.out.dZ hbq F3.out.size;have c2:=F4.out.dZ hbq F4.out.size;have hwq:Below w.heap.size w wr:=hB3.out.trans (hbq.mono hB3.out.size)
  by_cases hk:i+d<(xs.length+ys.length+1)
  ·obtain ⟨t,ht⟩:∃ t,o[i+d]?=some t:=⟨_,List.getElem?_eq_getElem (by rw [hlen.out];exact hk)⟩
   have hpl:=EL.len.trans hlen.out;have hpk:=EL.BZ.trans ht;have hc0:=aF.cellAt hpl.symm hown hpk;have hf0:wr.frozen? ⟨w3.heap.size,i+d,none⟩=false:=gA hpl hown (i+d)
   have hst:=DB fun y=>aF.set (j:=i+d) hpl.symm hown y rfl
   have hstep:=fun y hy=>EL.step (y:=y) hls.out hlx.out hlb.out (Nat.le_add_right _ _) ht hy
   rw [Nat.add_sub_cancel_left] at hstep;have hstep:=DB hstep;have htl:=hls.out t (List.mem_of_getElem? ht);unfold Wh.lim at htl;have hcr:=EL.c0;have Dk:=DB hbq;have d4:=c2.c1;have LO:w3.heap.size<wr.heap.size:=World.block_lt_of_cell? wr _ hc0;clear EL hpl hpk ht hown c1 c2
   by_cases hdl:d<ys.length
   ·obtain ⟨gb,yb,eb,hgb,hxb,hcb⟩:=hvb.out d hdl
    subst eb;have hcb:=aE hwq hcb;have hny:=Wh.cr hxb.out;have hm:=Wh.oL hlx.out (hlb.out yb (List.mem_of_getElem? hxb.out));rw [hny] at hstep;have hny:x*yb=x*yb:=rfl;generalize hpb:x*yb=pb at *;clear hny;have hny:pb=pb:=rfl;have hS:=hstep.out (t+c+pb) rfl;have hy0:=hS.1;have t1:Int.tmod (t+c+pb) 10000=(t+c+pb) % 10000:=Int.tmod_eq_emod_of_nonneg hy0.1;have t2:Int.tdiv (t+c+pb) 10000=(t+c+pb) / 10000:=Int.tdiv_eq_ediv_of_nonneg hy0.1
    have hrr:0<=(t+c+pb) % 10000/\(t+c+pb) % 10000<10000:=by omega
    have hqq:0<=(t+c+pb) / 10000/\(t+c+pb) / 10000<=9999:=by omega
    have hS2:=DB hS.2;have hO:=DB (hst.out ((t+c+pb) % 10000));clear hS hstep hst hny;generalize (t+c+pb) / 10000=qq,(t+c+pb) % 10000=r at *;go_wp2
    go_roundw
    case rel=>exact ⟨d+1,_,_,by omega,by go_num,by go_num,hO.out.1,hS2.out,Dk.out.setCell (DF _) _⟩
    case measure=>simp [intOf];omega
   have hny:=Wh.co (l:=ys) (i:=d) (by omega);rw [hny,Int.mul_zero] at hstep;have hS:=hstep.out (t+c) (by omega);have hy0:=hS.1;have t1:Int.tmod (t+c) 10000=(t+c) % 10000:=Int.tmod_eq_emod_of_nonneg hy0.1;have t2:Int.tdiv (t+c) 10000=(t+c) / 10000:=Int.tdiv_eq_ediv_of_nonneg hy0.1
   have hrr:0<=(t+c) % 10000/\(t+c) % 10000<10000:=by omega
   have hqq:0<=(t+c) / 10000/\(t+c) / 10000<=9999:=by omega
   have hS2:=DB hS.2;have hO:=DB (hst.out ((t+c) % 10000));clear hS hstep hst hny;generalize (t+c) / 10000=qq,(t+c) % 10000=r at *;go_wp2
   go_roundw
   case rel=>exact ⟨d+1,_,_,by omega,by go_num,by go_num,hO.out.1,hS2.out,Dk.out.setCell (DF _) _⟩
   case measure=>simp [intOf];omega
  have e:i+d=(xs.length+ys.length+1):=by omega
  rw [e] at EL;have hf:=DB (EL.fin hlen.out (by omega) hrow.out QL.out hls.out);have hpl:=DB (EL.len.trans hlen.out);have hll:=DB (EL.bD hls.out);have hown:=DB hown;clear EL c1 c2;go_wp2
  go_roundw
  case rel=>exact ⟨i+1,p,by omega,by go_num,hown.out,hpl.out,hll.out,hf.out,hbq⟩
  case measure=>simp [intOf];omega
 obtain rfl:i=xs.length:=by omega
 rw [List.take_length] at Je;have hov:Hid (kc wr w3.heap.size (.slice (some ⟨w3.heap.size,0,none⟩) (xs.length+ys.length+1) (xs.length+ys.length+1)) y (xs.length+ys.length+1)):=DB ⟨o,hown,hls.out,by rw [Je.out,hpr.out],by rw [hlen.out];exact DF _⟩;have d1:=c1.c0;have d2:=c2.c0;clear hown;rw [show (s1 != s2)=!(s1 == s2) from rfl] at PT;have PT:=DB PT
 go_wp2_with (go_at_call 127;(with_reducible refine (PT.out _ _ _ hov.out).mono ?_);rintro e w5 ⟨vc,rfl,hoc,hbc⟩;obtain ⟨ac,x_,rfl,hmc,Dd⟩:=aF.view hoc;have r5:=c3.keep hbc;have p0:=r5.c0;have p1:=r5.c1;have g0:=r5.f0;have g1:=r5.f1;clear Dd hmc)
 have hr:=cL (w:=w) (w.heap.size+1+1) _ (.bool s) (by omega) c3.size hoc (d_ hwr hbc);generalize (Wh.a_ z.natAbs).length=D2 at *;exact bodyPost_ret (v:=.agg #[s,.slice ac D2 x_]) (by simp [results,Tryz.results87,go_sem, *]) rfl (⟨_,rfl,hr.1,hr.2⟩)
end
end Go.Proofs.YtkalaljcbmkbmaaGreat
