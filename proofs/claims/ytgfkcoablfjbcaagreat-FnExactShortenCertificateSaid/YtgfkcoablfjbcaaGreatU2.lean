/-
  Joined texts: contracts and plain lemmas.
-/
import Derived.Test.YtgfkcoablfjbcaaGreatU1
import Derived.Laws.OwnMore
import Derived.Deep.DeepCutAuto
import Derived.Deep.RegionWith
import Derived.BigQuiet
set_option linter.unusedSimpArgs false
set_option linter.unusedVariables false
set_option maxRecDepth 100000
set_option maxHeartbeats 8000000
namespace Go.Proofs.YtgfkcoablfjbcaaGreat
section
open Go.RowKit
namespace Wh
theorem qd (z:Int):zo (!decide (z<0)) z.natAbs=-z:=by
 unfold zo
 by_cases h:z<0
 ·rw [decide_eq_true h];simp only [Bool.not_true,Bool.false_eq_true,if_false];omega
 rw [decide_eq_false h];simp only [Bool.not_false,if_true];omega
theorem mu {o:List Int} {m N:Int} (ho:bO o) (h:val o+10000 ^ o.length*m=N) (hm:0<m) (hN:N≤1000000000000000000):o.length≤4:=by
 have h1:=dC ho
 by_cases h5:5≤o.length
 ·have h2:=ig h5
  have h3:=Int.mul_le_mul_of_nonneg_left (show 1≤m by omega) (Int.le_of_lt (pow_pos o.length))
  have h4:(10000:Int) ^ 5=100000000000000000000:=by decide
  omega
 omega
theorem jX {o:List Int} {m N:Int} (h:val o+10000 ^ o.length*m=N) (hm:0≤m):val (o ++ [m % 10000])+10000 ^ (o ++ [m % 10000]).length*(m / 10000)=N:=by
 rw [oo,List.length_append,List.length_singleton,Int.pow_succ];have:=Int.mul_ediv_add_emod m 10000;generalize m / 10000=q,m % 10000=r at *
 grind
end Wh
theorem fV (z:Int) (neg:Bool) (ls:List Int) (v:Value) (w:World) (base:Nat) (hown:aF w base v ls) (h:Wh.bO ls) (hl:ls.length≤1000000) (hz:Wh.zo neg (Wh.val ls)=z) :
  Calls Tryz.prog 125 #[.bool neg,v] w fun e w'=>∃ sl,e=.returned (.agg #[.bool (decide (z<0)),sl])∧ah w' w.heap.size sl z∧Below w.heap.size w w':=by
 subst hz;exact sH neg ls v w base hown h hl
theorem cJ {w w2:World} {sl:Value} {xs:List Int} (c base:Nat) (u:Value) (h1:w.heap.size≤c) (h2:c<base) (hoc:aF w2 base sl xs) (hB:Below w.heap.size w w2) :
  aF ((w2.setCell ⟨c,0,none⟩ u).setCell ⟨c,1,none⟩ sl) w.heap.size sl xs∧Below w.heap.size w ((w2.setCell ⟨c,0,none⟩ u).setCell ⟨c,1,none⟩ sl):=by
 refine ⟨aF.base (World.ownsRow.kept hoc (cS w2 c u sl) ?_) (by omega),(hB.setCell h1 _).setCell h1 _⟩
 cases hs:sl.ownBlock with
 | none=>exact Or.inl rfl
 | some g=>
 right
 intro e
 injection e with e
 have:=(aF.lt hoc g hs).1;omega
theorem cW (w:World) (o o':Obj):((w.alloc o).alloc o').heap.size=w.heap.size+2:=by rw [yJ,yJ]
theorem ai.new2 (w:World) (o:Obj) (u v:Value) (T:TypeId):ai ((w.alloc o).alloc (.cells #[u,v] T)) (w.heap.size+1) u v:=by
 have:=ai.new (w.alloc o) u v T
 rwa [yJ] at this
theorem iZ (z:Int) (sl:Value) (w:World) (base:Nat) (ho:ah w base sl z) (hl:(Wh.d_ z.natAbs).length≤1000000) :
  Calls Tryz.prog 115 #[.agg #[.bool (decide (z<0)),sl]] w fun e w'=>∃ sl',e=.returned (.agg #[.bool (decide (-z<0)),sl'])∧ah w' w.heap.size sl' (-z)∧Below w.heap.size w w':=by
 have PT:=fun W v h=>fV (-z) (!decide (z<0)) (Wh.d_ z.natAbs) v W base h (Wh.an _) hl (by rw [Wh.bP];exact Wh.qd z)
 obtain ⟨a,cap,rfl,hm,hv⟩:=aF.view ho;clear hm hv;have ho:=yI (show aF _ _ _ _ from ho);generalize -z=y,decide (z<0)=b at *;generalize (Wh.d_ z.natAbs).length=n,decide (y<0)=b' at *;have bz:=ai.new2 w (.cells #[.bool b,.slice a n cap] 136) (.bool false) (.slice none 0 0) 136;have hz2:=cW w (.cells #[.bool b,.slice a n cap] 136) (.cells #[.bool false,.slice none 0 0] 136);cases b
 all_goals
  simp only [Bool.not_true,Bool.not_false] at PT;have PT:=yI PT;go_enter Tryz.func115,Tryz.ntmps115
  go_wp2_with (go_at_call 125;(with_reducible refine (PT.out _ _ (aF.alloc (aF.alloc ho.out _) _)).mono ?_);rintro e w2 ⟨vc,rfl,hoc,hbc⟩;obtain ⟨ac,yS,rfl,hmc,yw⟩:=aF.view hoc;have yz:=bz.keep hbc;have c0:=yz.c0;have c1:=yz.c1;have g0:=yz.f0;have g1:=yz.f1;clear yw hmc)
  have hr:=cJ (w:=w) (w.heap.size+1) _ (.bool b') (by omega) (by rw [hz2];omega) hoc (by repeat (first | exact yL _ _ | refine aQ ?_ _ | refine aS ?_ (by assumption) | refine Below.drew ?_ | refine yK ?_ (by first | exact yM _ | exact Nat.le_add_right _ _ | (simp <;> omega)) _ | refine aL ?_ _));generalize (Wh.d_ y.natAbs).length=n2 at *;exact bodyPost_ret (v:=.agg #[.bool b',.slice ac n2 yS]) (by simp [results,Tryz.results115,go_sem, *]) rfl (⟨_,rfl,hr.1,hr.2⟩)
theorem pC (z:Int) (sl:Value) (w:World) (base:Nat) (ho:ah w base sl z) (hl:(Wh.d_ z.natAbs).length≤1000000) :
  Calls Tryz.prog 171 #[.agg #[.bool (decide (z<0)),sl]] w fun e w'=>∃ sl',e=.returned (.agg #[.bool (decide ((z.natAbs:Int)<0)),sl'])∧ah w' w.heap.size sl' (z.natAbs:Int)∧Below w.heap.size w w':=by
 have PT:=fun W v h=>fV (z.natAbs:Int) false (Wh.d_ z.natAbs) v W base h (Wh.an _) hl (by rw [Wh.bP];rfl)
 obtain ⟨a,cap,rfl,hm,hv⟩:=aF.view ho;clear hm hv;have ho:=yI (show aF _ _ _ _ from ho);generalize decide (z<0)=b at *;generalize (z.natAbs:Int)=y at *;generalize (Wh.d_ z.natAbs).length=n,decide (y<0)=b' at *;have bz:=ai.new2 w (.cells #[.bool b,.slice a n cap] 136) (.bool false) (.slice none 0 0) 136;have hz2:=cW w (.cells #[.bool b,.slice a n cap] 136) (.cells #[.bool false,.slice none 0 0] 136);cases b
 all_goals
  have PT:=yI PT;go_enter Tryz.func171,Tryz.ntmps171
  go_wp2_with (go_at_call 125;(with_reducible refine (PT.out _ _ (aF.alloc (aF.alloc ho.out _) _)).mono ?_);rintro e w2 ⟨vc,rfl,hoc,hbc⟩;obtain ⟨ac,yS,rfl,hmc,yw⟩:=aF.view hoc;have yz:=bz.keep hbc;have c0:=yz.c0;have c1:=yz.c1;have g0:=yz.f0;have g1:=yz.f1;clear yw hmc)
  have hr:=cJ (w:=w) (w.heap.size+1) _ (.bool b') (by omega) (by rw [hz2];omega) hoc (by repeat (first | exact yL _ _ | refine aQ ?_ _ | refine aS ?_ (by assumption) | refine Below.drew ?_ | refine yK ?_ (by first | exact yM _ | exact Nat.le_add_right _ _ | (simp <;> omega)) _ | refine aL ?_ _));generalize (Wh.d_ y.natAbs).length=n2 at *;exact bodyPost_ret (v:=.agg #[.bool b',.slice ac n2 yS]) (by simp [results,Tryz.results171,go_sem, *]) rfl (⟨_,rfl,hr.1,hr.2⟩)
theorem ai.dS {w w':World} {b base:Nat} {u v:Value} (h:ai w b u v) (hb:Below base w w') (hl:b<base):ai w' b u v:=
 ⟨(hb.cell (p:=⟨b,0,none⟩) hl).trans h.c0,(hb.cell (p:=⟨b,1,none⟩) hl).trans h.c1,(hb.frozen (p:=⟨b,0,none⟩) hl).trans h.f0,(hb.frozen (p:=⟨b,1,none⟩) hl).trans h.f1,Nat.lt_of_lt_of_le h.size hb.size⟩
theorem bi (n:Int) (w:World) (h1:-1000000000000000000≤n) (h2:n≤1000000000000000000) :
  Calls Tryz.prog 113 #[.int .i64 n] w fun e w'=>∃ sl,e=.returned (.agg #[.bool (decide (n<0)),sl])∧ah w' w.heap.size sl n∧Below w.heap.size w w':=by
 obtain ⟨k,hk⟩:∃ k:Nat,n.natAbs=k:=⟨_,rfl⟩
 have PT:=fun (o:List Int) (W:World) (v:Value) (base:Nat) (h:aF W base v o) (hl:Wh.bO o) (hv:Wh.val o=k) (hlen:o.length≤1000000)=>fV n (decide (n<0)) o v W base h hl hlen (by rw [hv,←hk];exact Wh.oX n)
 have hbd:(k:Int)≤1000000000000000000:=by omega
 have bx:=ai.new w (.bool false) (.slice none 0 0) 136
 by_cases hneg:n<0
 ·obtain rfl:n=-(k:Int):=by omega
  have hk0:0<(k:Int):=by omega
  have hdk:decide (-(k:Int)<0)=decide (0<k):=by rw [decide_eq_decide];omega
  rw [hdk] at PT ⊢;clear hdk;have PT:=yI PT;clear hk hneg h1 h2;go_enter Tryz.func113,Tryz.ntmps113
  go_wp2
  go_loopw [0,4] (fun vn vo wr=>∃ (m:Nat) (o:List Int),vn=.int .i64 m∧aF wr (w.heap.size+1) vo o∧Wh.bO o∧Wh.val o+10000 ^ o.length*(m:Int)=k∧m≤1000000000000000000∧o.length≤5∧Hid (ai wr w.heap.size (.bool false) (.slice none 0 0))∧Below w.heap.size w wr) (fun vn _ _=>(intOf vn).toNat)
  case atStart=>exact ⟨k,[],rfl,aF.nil _ _,(fun x hx=>by cases hx),by simp [Wh.val],by omega,by simp,yI bx,(yL _ _).alloc (yM _) _⟩
  case round=>
  clear bx;obtain ⟨m,o,rfl,hown,hls,hvl,hm18,yT,zY,hbr⟩:=hrel;have hls:=yI hls;have EF:w.heap.size+1≤wr.heap.size:=zY.out.size
  by_cases hm0:0<m
  ·have hlen:=Wh.mu hls.out hvl (by omega) (by omega)
   have hst:=Wh.jX hvl (by omega);rw [show ((m:Int) % 10000)=((m % 10000:Nat):Int) by omega,show ((m:Int) / 10000)=((m / 10000:Nat):Int) by omega] at hst;have hst:=yI hst;have hrb:m % 10000<10000:=Nat.mod_lt _ (by decide);have MS:m / 10000<m:=Nat.div_lt_self hm0 (by decide)
   have t1:Int.tmod (m:Int) 10000=((m % 10000:Nat):Int):=by rw [Int.tmod_eq_emod_of_nonneg (by omega)];omega
   have t2:Int.tdiv (m:Int) 10000=((m / 10000:Nat):Int):=by rw [Int.tdiv_eq_ediv_of_nonneg (by omega)];omega
   generalize m / 10000=q,m % 10000=r at *;have hl2:Hid (Wh.bO (o ++ [(r:Int)])):=yI (Wh.cR hls.out fun y hy=>by rw [List.mem_singleton] at hy;subst hy;unfold Wh.lim;omega);have hl3:Hid ((o ++ [(r:Int)]).length≤5):=yI (by rw [List.length_append];simp;omega);have hown:=yI hown;clear hvl
   go_wp2_with (at_builtin;refine cy (W:=wr) (w.heap.size+1) (r:Int) _ _ rfl (.tmp 15) (.tmp 18) rfl rfl rfl hown.out (yL _ _) (by omega) (by omega) ?_;rintro v6 w6 hown6 hb6)
   go_roundw
   case rel=>exact ⟨q,o ++ [(r:Int)],rfl,hown6,hl2.out,hst.out,by omega,hl3.out,yI (zY.out.dS hb6 (Nat.lt_succ_self _)),hbr.trans (hb6.mono (Nat.le_succ _))⟩
   case measure=>simp [intOf];omega
  obtain rfl:m=0:=by omega
  have zy:Wh.val o=k:=by rw [←hvl];simp
  have zy:=yI zy;have hown:=yI hown;clear hvl
  go_wp2_with (go_at_call 125;(with_reducible refine (PT.out o _ _ _ hown.out hls.out zy.out (by omega)).mono ?_);rintro e w2 ⟨vc,rfl,hoc,hbc⟩;obtain ⟨ac,yS,rfl,hmc,yw⟩:=aF.view hoc;have yz:=zY.out.keep hbc;have c0:=yz.c0;have c1:=yz.c1;have g0:=yz.f0;have g1:=yz.f1;clear yw hmc)
  have hr:=cJ (w:=w) w.heap.size _ (.bool (decide (0<k))) (yM _) zY.out.size hoc (hbr.trans (hbc.mono (by omega)))
  have en:(-(k:Int)).natAbs=k:=by omega
  rw [en] at hr;generalize (Wh.d_ k).length=n2 at *;exact bodyPost_ret (v:=.agg #[.bool (decide (0<k)),.slice ac n2 yS]) (by simp [results,Tryz.results113,go_sem, *]) rfl (⟨_,rfl,by unfold ah;rw [en];exact hr.1,hr.2⟩)
 obtain rfl:n=(k:Int):=by omega
 rw [decide_eq_false hneg] at PT ⊢;have PT:=yI PT;clear hk h1 h2
 have MN:0≤(k:Int):=by omega
 go_enter Tryz.func113,Tryz.ntmps113
 go_wp2
 go_loopw [0,4] (fun vn vo wr=>∃ (m:Nat) (o:List Int),vn=.int .i64 m∧aF wr (w.heap.size+1) vo o∧Wh.bO o∧Wh.val o+10000 ^ o.length*(m:Int)=k∧m≤1000000000000000000∧o.length≤5∧Hid (ai wr w.heap.size (.bool false) (.slice none 0 0))∧Below w.heap.size w wr) (fun vn _ _=>(intOf vn).toNat)
 case atStart=>exact ⟨k,[],rfl,aF.nil _ _,(fun x hx=>by cases hx),by simp [Wh.val],by omega,by simp,yI bx,(yL _ _).alloc (yM _) _⟩
 case round=>
 clear bx;obtain ⟨m,o,rfl,hown,hls,hvl,hm18,yT,zY,hbr⟩:=hrel;have hls:=yI hls;have EF:w.heap.size+1≤wr.heap.size:=zY.out.size
 by_cases hm0:0<m
 ·have hlen:=Wh.mu hls.out hvl (by omega) (by omega)
  have hst:=Wh.jX hvl (by omega);rw [show ((m:Int) % 10000)=((m % 10000:Nat):Int) by omega,show ((m:Int) / 10000)=((m / 10000:Nat):Int) by omega] at hst;have hst:=yI hst;have hrb:m % 10000<10000:=Nat.mod_lt _ (by decide);have MS:m / 10000<m:=Nat.div_lt_self hm0 (by decide)
  have t1:Int.tmod (m:Int) 10000=((m % 10000:Nat):Int):=by rw [Int.tmod_eq_emod_of_nonneg (by omega)];omega
  have t2:Int.tdiv (m:Int) 10000=((m / 10000:Nat):Int):=by rw [Int.tdiv_eq_ediv_of_nonneg (by omega)];omega
  generalize m / 10000=q,m % 10000=r at *;have hl2:Hid (Wh.bO (o ++ [(r:Int)])):=yI (Wh.cR hls.out fun y hy=>by rw [List.mem_singleton] at hy;subst hy;unfold Wh.lim;omega);have hl3:Hid ((o ++ [(r:Int)]).length≤5):=yI (by rw [List.length_append];simp;omega);have hown:=yI hown;clear hvl
  go_wp2_with (at_builtin;refine cy (W:=wr) (w.heap.size+1) (r:Int) _ _ rfl (.tmp 15) (.tmp 18) rfl rfl rfl hown.out (yL _ _) (by omega) (by omega) ?_;rintro v6 w6 hown6 hb6)
  go_roundw
  case rel=>exact ⟨q,o ++ [(r:Int)],rfl,hown6,hl2.out,hst.out,by omega,hl3.out,yI (zY.out.dS hb6 (Nat.lt_succ_self _)),hbr.trans (hb6.mono (Nat.le_succ _))⟩
  case measure=>simp [intOf];omega
 obtain rfl:m=0:=by omega
 have zy:Wh.val o=k:=by rw [←hvl];simp
 have zy:=yI zy;have hown:=yI hown;clear hvl
 go_wp2_with (go_at_call 125;(with_reducible refine (PT.out o _ _ _ hown.out hls.out zy.out (by omega)).mono ?_);rintro e w2 ⟨vc,rfl,hoc,hbc⟩;obtain ⟨ac,yS,rfl,hmc,yw⟩:=aF.view hoc;have yz:=zY.out.keep hbc;have c0:=yz.c0;have c1:=yz.c1;have g0:=yz.f0;have g1:=yz.f1;clear yw hmc)
 have hr:=cJ (w:=w) w.heap.size _ (.bool false) (yM _) zY.out.size hoc (hbr.trans (hbc.mono (by omega)))
 have en:(k:Int).natAbs=k:=by omega
 rw [en] at hr;generalize (Wh.d_ k).length=n2 at *;exact bodyPost_ret (v:=.agg #[.bool false,.slice ac n2 yS]) (by simp [results,Tryz.results113,go_sem, *]) rfl (⟨_,rfl,by unfold ah;rw [en];exact hr.1,hr.2⟩)
theorem vF (xs:List Int) (v:Value) (w:World) (base:Nat) (hown:aF w base v xs) (hl:xs.length≤1000000000) :
  Calls Tryz.prog 178 #[v] w fun e w'=>∃ v',e=.returned v'∧aF w' w.heap.size v' xs∧Below w.heap.size w w':=by
 obtain ⟨A,cap',rfl,hf⟩:=nc hown;have hf:=yI hf;go_enter Tryz.func178,Tryz.ntmps178
 go_wp2_with (at_builtin;refine oI (W:=w) w.heap.size xs [] _ A _ _ (by rfl) (by rfl) (.tmp 3) (.tmp 4) (by rfl) (by rfl) (by rfl) (hf.out _ (by repeat (first | exact yL _ _ | refine aQ ?_ _ | refine aS ?_ (by assumption) | refine Below.drew ?_ | refine yK ?_ (by first | exact yM _ | exact Nat.le_add_right _ _ | (simp <;> omega)) _ | refine aL ?_ _))) (aF.pR _ _ (yM _)) (by repeat (first | exact yL _ _ | refine aQ ?_ _ | refine aS ?_ (by assumption) | refine Below.drew ?_ | refine yK ?_ (by first | exact yM _ | exact Nat.le_add_right _ _ | (simp <;> omega)) _ | refine aL ?_ _)) (by simp) (by simp;omega) ?_;rintro v1 w1 hown1 hb1)
 go_ret;exact ⟨_,rfl,hown1,hb1⟩
theorem si (neg:Bool) (ls:List Int) (v:Value) (w:World) (base:Nat) (hown:aF w base v ls) (h:Wh.bO ls) (hl:ls.length≤1000000) :
  Calls Tryz.prog 163 #[.bool neg,v] w fun e w'=>∃ sl,e=.returned (.agg #[.bool (decide (Wh.zo neg (Wh.val ls)<0)),sl])∧ah w' w.heap.size sl (Wh.zo neg (Wh.val ls))∧Below w.heap.size w w':=by
 obtain ⟨a,cap,rfl,hm,hv⟩:=hown.seen;have hv:=yI hv;have hgt:=yI (Wh.jW h);have hn:=Wh.dC h;have hs1:=yI (Wh.qc (neg:=neg) hn);have hs2:=yI (Wh.mg (neg:=neg) hn);have hls:=yI h;have hcp:=hown.cap;replace hown:=yI hown;clear hm hn h;have bx:=ai.new w (.bool false) (.slice none 0 0) 136;go_enter Tryz.func163,Tryz.ntmps163
 go_wp2
 go_loopw [5] (fun vl wr=>∃ k:Nat,k≤ls.length∧vl=.int .i64 k∧Wh.trim (ls.take k)=Wh.trim ls∧wr=w.alloc (.cells #[.bool false,.slice none 0 0] 136)) (fun vl _=>(intOf vl).toNat)
 case atStart=>exact ⟨ls.length,yM _,rfl,by rw [List.take_length],rfl⟩
 case round=>
 obtain ⟨k,hk,rfl,htr,rfl⟩:=hrel;have hown2:aF (w.alloc (.cells #[.bool false,.slice none 0 0] 136)) base (.slice a k cap) (ls.take k):=(aF.xe hown.out hk).alloc _
 have fin:ls.take k=Wh.d_ (Wh.val ls).toNat→Hid ((decide (Wh.zo neg (Wh.val ls)<0)=(neg && decide (0<k)))∧∀ (W:World) (b:Nat) (vc:Value),aF W b vc (ls.take k)→ah W b vc (Wh.zo neg (Wh.val ls))):=fun h=>yI (by
  have h2:=Wh.oZ hk h;have hn:=Wh.dC hls.out;refine ⟨?_,fun W b vc ho=>?_⟩
  ·rw [hs1.out]
   congr 1
   rw [decide_eq_decide,←h2];omega
  unfold ah;rw [hs2.out,←h]
  exact ho)
 have PC:=fun W v h=>vF (ls.take k) v W base h (by rw [List.length_take];omega)
 have PC:=yI PC;have hown2:=yI hown2;have htr:=yI htr
 cases k with
 | zero=>
  have f2:=fin (by rw [←hgt.out,←htr.out];rfl);clear fin htr hgt;cases neg
  all_goals
   go_wp2_with (go_at_call 178;(with_reducible refine (PC.out _ _ hown2.out).mono ?_);rintro e w2 ⟨vc,rfl,hoc,hbc⟩;obtain ⟨ac,yS,rfl,hmc,yw⟩:=hoc.view;have yz:=bx.keep hbc;have c0:=yz.c0;have c1:=yz.c1;have g0:=yz.f0;have g1:=yz.f1;clear yw hmc)
   have hr:=rk (.bool false) hoc hbc;exact bodyPost_ret (v:=.agg #[.bool false,.slice ac 0 yS]) (by simp [results,Tryz.results163,go_sem, *]) rfl (⟨_,by rw [f2.out.1] <;> rfl,f2.out.2 _ _ _ hr.1,hr.2⟩)
 | succ m=>
 obtain ⟨g,x,rfl,hg,hx,hcell⟩:=hv.out m (by omega)
 by_cases h0:x=0
 ·subst h0
  have hct:=yI ((Wh.oh (by omega) hx.out).symm.trans htr.out);clear fin htr;go_wp2
  go_roundw
  case rel=>exact ⟨m,by omega,by go_num,hct.out,by first | rfl | trivial⟩
  case measure=>simp [intOf]
 have f2:=fin (by rw [←hgt.out,←htr.out,Wh.lh hx.out h0]);generalize ls.take (m+1)=L at *;clear fin htr hgt;cases neg
 ·go_wp2_with (go_at_call 178;(with_reducible refine (PC.out _ _ hown2.out).mono ?_);rintro e w2 ⟨vc,rfl,hoc,hbc⟩;obtain ⟨ac,yS,rfl,hmc,yw⟩:=hoc.view;have yz:=bx.keep hbc;have c0:=yz.c0;have c1:=yz.c1;have g0:=yz.f0;have g1:=yz.f1;clear yw hmc)
  have hr:=rk (.bool false) hoc hbc;exact bodyPost_ret (v:=.agg #[.bool false,.slice ac L.length yS]) (by simp [results,Tryz.results163,go_sem, *]) rfl (⟨_,by rw [f2.out.1] <;> rfl,f2.out.2 _ _ _ hr.1,hr.2⟩)
 go_wp2_with (go_at_call 178;(with_reducible refine (PC.out _ _ hown2.out).mono ?_);rintro e w2 ⟨vc,rfl,hoc,hbc⟩;obtain ⟨ac,yS,rfl,hmc,yw⟩:=hoc.view;have yz:=bx.keep hbc;have c0:=yz.c0;have c1:=yz.c1;have g0:=yz.f0;have g1:=yz.f1;clear yw hmc)
 have hr:=rk (.bool true) hoc hbc;exact bodyPost_ret (v:=.agg #[.bool true,.slice ac L.length yS]) (by simp [results,Tryz.results163,go_sem, *]) rfl (⟨_,by rw [f2.out.1] <;> simp,f2.out.2 _ _ _ hr.1,hr.2⟩)
theorem gD (z:Int) (neg:Bool) (ls:List Int) (v:Value) (w:World) (base:Nat) (hown:aF w base v ls) (h:Wh.bO ls) (hl:ls.length≤1000000) (hz:Wh.zo neg (Wh.val ls)=z) :
  Calls Tryz.prog 163 #[.bool neg,v] w fun e w'=>∃ sl,e=.returned (.agg #[.bool (decide (z<0)),sl])∧ah w' w.heap.size sl z∧Below w.heap.size w w':=by
 subst hz;exact si neg ls v w base hown h hl
theorem iO (z:Int) (sl:Value) (w:World) (base:Nat) (ho:ah w base sl z) (hl:(Wh.d_ z.natAbs).length≤1000000) :
  Calls Tryz.prog 159 #[.agg #[.bool (decide (z<0)),sl]] w fun e w'=>∃ sl',e=.returned (.agg #[.bool (decide (-z<0)),sl'])∧ah w' w.heap.size sl' (-z)∧Below w.heap.size w w':=by
 have PT:=fun W v h=>gD (-z) (!decide (z<0)) (Wh.d_ z.natAbs) v W base h (Wh.an _) hl (by rw [Wh.bP];exact Wh.qd z)
 obtain ⟨a,cap,rfl,hm,hv⟩:=aF.view ho;clear hm hv;have ho:=yI (show aF _ _ _ _ from ho);generalize -z=y,decide (z<0)=b at *;generalize (Wh.d_ z.natAbs).length=n,decide (y<0)=b' at *;have bz:=ai.new2 w (.cells #[.bool b,.slice a n cap] 136) (.bool false) (.slice none 0 0) 136;have hz2:=cW w (.cells #[.bool b,.slice a n cap] 136) (.cells #[.bool false,.slice none 0 0] 136);cases b
 all_goals
  simp only [Bool.not_true,Bool.not_false] at PT;have PT:=yI PT;go_enter Tryz.func159,Tryz.ntmps159
  go_wp2_with (go_at_call 163;(with_reducible refine (PT.out _ _ (aF.alloc (aF.alloc ho.out _) _)).mono ?_);rintro e w2 ⟨vc,rfl,hoc,hbc⟩;obtain ⟨ac,yS,rfl,hmc,yw⟩:=aF.view hoc;have yz:=bz.keep hbc;have c0:=yz.c0;have c1:=yz.c1;have g0:=yz.f0;have g1:=yz.f1;clear yw hmc)
  have hr:=cJ (w:=w) (w.heap.size+1) _ (.bool b') (by omega) (by rw [hz2];omega) hoc (by repeat (first | exact yL _ _ | refine aQ ?_ _ | refine aS ?_ (by assumption) | refine Below.drew ?_ | refine yK ?_ (by first | exact yM _ | exact Nat.le_add_right _ _ | (simp <;> omega)) _ | refine aL ?_ _));generalize (Wh.d_ y.natAbs).length=n2 at *;exact bodyPost_ret (v:=.agg #[.bool b',.slice ac n2 yS]) (by simp [results,Tryz.results159,go_sem, *]) rfl (⟨_,rfl,hr.1,hr.2⟩)
theorem jo (n:Int) (w:World) (h1:-1000000000000000000≤n) (h2:n≤1000000000000000000) :
  Calls Tryz.prog 147 #[.int .i64 n] w fun e w'=>∃ sl,e=.returned (.agg #[.bool (decide (n<0)),sl])∧ah w' w.heap.size sl n∧Below w.heap.size w w':=by
 obtain ⟨k,hk⟩:∃ k:Nat,n.natAbs=k:=⟨_,rfl⟩
 have PT:=fun (o:List Int) (W:World) (v:Value) (base:Nat) (h:aF W base v o) (hl:Wh.bO o) (hv:Wh.val o=k) (hlen:o.length≤1000000)=>gD n (decide (n<0)) o v W base h hl hlen (by rw [hv,←hk];exact Wh.oX n)
 have PA:=fun W=>dJ n W (by omega) (by omega)
 rw [hk] at PA
 have hbd:(k:Int)≤1000000000000000000:=by omega
 have bx:=ai.new w (.bool false) (.slice none 0 0) 136
 by_cases hneg:n<0
 ·obtain rfl:n=-(k:Int):=by omega
  have hk0:0<(k:Int):=by omega
  have hdk:decide (-(k:Int)<0)=decide (0<k):=by rw [decide_eq_decide];omega
  rw [hdk] at PT ⊢;clear hdk;have PT:=yI PT;have PA:=yI PA;clear hk hneg h1 h2;go_enter Tryz.func147,Tryz.ntmps147
  go_wp2_with (go_at_call 84;(with_reducible refine (PA.out _).mono ?_);rintro e w1 ⟨rfl,rfl⟩)
  go_loopw [3,4] (fun vo vn wr=>∃ (m:Nat) (o:List Int),vn=.int .i64 m∧aF wr (w.heap.size+1) vo o∧Wh.bO o∧Wh.val o+10000 ^ o.length*(m:Int)=k∧m≤1000000000000000000∧o.length≤5∧Hid (ai wr w.heap.size (.bool false) (.slice none 0 0))∧Below w.heap.size w wr) (fun _ vn _=>(intOf vn).toNat)
  case atStart=>exact ⟨k,[],rfl,aF.nil _ _,(fun x hx=>by cases hx),by simp [Wh.val],by omega,by simp,yI bx,(yL _ _).alloc (yM _) _⟩
  case round=>
  clear bx;obtain ⟨m,o,rfl,hown,hls,hvl,hm18,yT,zY,hbr⟩:=hrel;have hls:=yI hls;have EF:w.heap.size+1≤wr.heap.size:=zY.out.size
  by_cases hm0:0<m
  ·have hlen:=Wh.mu hls.out hvl (by omega) (by omega)
   have hst:=Wh.jX hvl (by omega);rw [show ((m:Int) % 10000)=((m % 10000:Nat):Int) by omega,show ((m:Int) / 10000)=((m / 10000:Nat):Int) by omega] at hst;have hst:=yI hst;have hrb:m % 10000<10000:=Nat.mod_lt _ (by decide);have MS:m / 10000<m:=Nat.div_lt_self hm0 (by decide)
   have t1:Int.tmod (m:Int) 10000=((m % 10000:Nat):Int):=by rw [Int.tmod_eq_emod_of_nonneg (by omega)];omega
   have t2:Int.tdiv (m:Int) 10000=((m / 10000:Nat):Int):=by rw [Int.tdiv_eq_ediv_of_nonneg (by omega)];omega
   generalize m / 10000=q,m % 10000=r at *;have hl2:Hid (Wh.bO (o ++ [(r:Int)])):=yI (Wh.cR hls.out fun y hy=>by rw [List.mem_singleton] at hy;subst hy;unfold Wh.lim;omega);have hl3:Hid ((o ++ [(r:Int)]).length≤5):=yI (by rw [List.length_append];simp;omega);have hown:=yI hown;clear hvl
   go_wp2_with (at_builtin;refine cy (W:=wr) (w.heap.size+1) (r:Int) _ _ rfl (.tmp 11) (.tmp 14) rfl rfl rfl hown.out (yL _ _) (by omega) (by omega) ?_;rintro v6 w6 hown6 hb6)
   go_roundw
   case rel=>exact ⟨q,o ++ [(r:Int)],rfl,hown6,hl2.out,hst.out,by omega,hl3.out,yI (zY.out.dS hb6 (Nat.lt_succ_self _)),hbr.trans (hb6.mono (Nat.le_succ _))⟩
   case measure=>simp [intOf];omega
  obtain rfl:m=0:=by omega
  have zy:Wh.val o=k:=by rw [←hvl];simp
  have zy:=yI zy;have hown:=yI hown;clear hvl
  go_wp2_with (go_at_call 163;(with_reducible refine (PT.out o _ _ _ hown.out hls.out zy.out (by omega)).mono ?_);rintro e w2 ⟨vc,rfl,hoc,hbc⟩;obtain ⟨ac,yS,rfl,hmc,yw⟩:=aF.view hoc;have yz:=zY.out.keep hbc;have c0:=yz.c0;have c1:=yz.c1;have g0:=yz.f0;have g1:=yz.f1;clear yw hmc)
  have hr:=cJ (w:=w) w.heap.size _ (.bool (decide (0<k))) (yM _) zY.out.size hoc (hbr.trans (hbc.mono (by omega)))
  have en:(-(k:Int)).natAbs=k:=by omega
  rw [en] at hr;generalize (Wh.d_ k).length=n2 at *;exact bodyPost_ret (v:=.agg #[.bool (decide (0<k)),.slice ac n2 yS]) (by simp [results,Tryz.results147,go_sem, *]) rfl (⟨_,rfl,by unfold ah;rw [en];exact hr.1,hr.2⟩)
 obtain rfl:n=(k:Int):=by omega
 have PT:=yI PT;have PA:=yI PA;clear hk h1 h2
 have MN:0≤(k:Int):=by omega
 go_enter Tryz.func147,Tryz.ntmps147
 go_wp2_with (go_at_call 84;(with_reducible refine (PA.out _).mono ?_);rintro e w1 ⟨rfl,rfl⟩)
 go_loopw [3,4] (fun vo vn wr=>∃ (m:Nat) (o:List Int),vn=.int .i64 m∧aF wr (w.heap.size+1) vo o∧Wh.bO o∧Wh.val o+10000 ^ o.length*(m:Int)=k∧m≤1000000000000000000∧o.length≤5∧Hid (ai wr w.heap.size (.bool false) (.slice none 0 0))∧Below w.heap.size w wr) (fun _ vn _=>(intOf vn).toNat)
 case atStart=>exact ⟨k,[],rfl,aF.nil _ _,(fun x hx=>by cases hx),by simp [Wh.val],by omega,by simp,yI bx,(yL _ _).alloc (yM _) _⟩
 case round=>
 clear bx;obtain ⟨m,o,rfl,hown,hls,hvl,hm18,yT,zY,hbr⟩:=hrel;have hls:=yI hls;have EF:w.heap.size+1≤wr.heap.size:=zY.out.size
 by_cases hm0:0<m
 ·have hlen:=Wh.mu hls.out hvl (by omega) (by omega)
  have hst:=Wh.jX hvl (by omega);rw [show ((m:Int) % 10000)=((m % 10000:Nat):Int) by omega,show ((m:Int) / 10000)=((m / 10000:Nat):Int) by omega] at hst;have hst:=yI hst;have hrb:m % 10000<10000:=Nat.mod_lt _ (by decide);have MS:m / 10000<m:=Nat.div_lt_self hm0 (by decide)
  have t1:Int.tmod (m:Int) 10000=((m % 10000:Nat):Int):=by rw [Int.tmod_eq_emod_of_nonneg (by omega)];omega
  have t2:Int.tdiv (m:Int) 10000=((m / 10000:Nat):Int):=by rw [Int.tdiv_eq_ediv_of_nonneg (by omega)];omega
  generalize m / 10000=q,m % 10000=r at *;have hl2:Hid (Wh.bO (o ++ [(r:Int)])):=yI (Wh.cR hls.out fun y hy=>by rw [List.mem_singleton] at hy;subst hy;unfold Wh.lim;omega);have hl3:Hid ((o ++ [(r:Int)]).length≤5):=yI (by rw [List.length_append];simp;omega);have hown:=yI hown;clear hvl
  go_wp2_with (at_builtin;refine cy (W:=wr) (w.heap.size+1) (r:Int) _ _ rfl (.tmp 11) (.tmp 14) rfl rfl rfl hown.out (yL _ _) (by omega) (by omega) ?_;rintro v6 w6 hown6 hb6)
  go_roundw
  case rel=>exact ⟨q,o ++ [(r:Int)],rfl,hown6,hl2.out,hst.out,by omega,hl3.out,yI (zY.out.dS hb6 (Nat.lt_succ_self _)),hbr.trans (hb6.mono (Nat.le_succ _))⟩
  case measure=>simp [intOf];omega
 obtain rfl:m=0:=by omega
 have zy:Wh.val o=k:=by rw [←hvl];simp
 have zy:=yI zy;have hown:=yI hown;clear hvl
 go_wp2_with (go_at_call 163;(with_reducible refine (PT.out o _ _ _ hown.out hls.out zy.out (by omega)).mono ?_);rintro e w2 ⟨vc,rfl,hoc,hbc⟩;obtain ⟨ac,yS,rfl,hmc,yw⟩:=aF.view hoc;have yz:=zY.out.keep hbc;have c0:=yz.c0;have c1:=yz.c1;have g0:=yz.f0;have g1:=yz.f1;clear yw hmc)
 have hr:=cJ (w:=w) w.heap.size _ (.bool (decide ((k:Int)<0))) (yM _) zY.out.size hoc (hbr.trans (hbc.mono (by omega)))
 have en:(k:Int).natAbs=k:=by omega
 rw [en] at hr;generalize (Wh.d_ k).length=n2 at *;exact bodyPost_ret (v:=.agg #[.bool (decide ((k:Int)<0)),.slice ac n2 yS]) (by simp [results,Tryz.results147,go_sem, *]) rfl (⟨_,rfl,by unfold ah;rw [en];exact hr.1,hr.2⟩)
def jg (W:World) (base:Nat) (v:Value) (z:Int) (n:Nat):Prop:=∃ o,aF W base v o∧Wh.bO o∧Wh.val o=z∧o.length≤n
theorem tq (n:Nat):(madeCells (Value.int .i64 0).cells (n*1)).toList=(List.replicate n (0:Int)).map (Value.int .i64):=by
 show (madeCells #[Value.int .i64 0] (n*1)).toList=_
 rw [toList_madeCells_one,Nat.mul_one,List.map_replicate]
theorem lQ (w:World) (n:Nat) (hn:n≤1000000000):∃ w1,(Instr.makeSlice 26 (.int .i64 (n:Int)) (.int .i64 (n:Int))).run Tryz.prog w=.ok (.slice (some ⟨w.heap.size,0,none⟩) n n) w1∧
  aF w1 w.heap.size (.slice (some ⟨w.heap.size,0,none⟩) n n) (List.replicate n 0)∧w.grownBy w1 none:=by
 obtain ⟨i0,hi,hz0,hz1,hz2⟩:=info_parts kF;obtain ⟨w1,h1,h2,h3⟩:=run_make_full (P:=Tryz.prog) w w.heap.size 26 3 i0 (.int .i64 0) 1 Tryz.underlying26 hi hz0 hz1 .i64 .i64 n (by rw [hz2];omega) (by unfold maxLen;omega) (yM _);refine ⟨w1,h1,?_,h3⟩;unfold aF;rw [←tq,List.length_replicate];exact h2
theorem fM {w:World} {base g cap n:Nat} {l:List Int} (hl:l.length=n) (h:aF w base (.slice (some ⟨g,0,none⟩) n cap) l) (i:Nat):w.frozen? ⟨g,i,none⟩=false:=by
 unfold aF at h;rw [hl] at h;exact World.ownsRow.frozenAt h i
theorem oW {l:List Int} {i n:Nat} (hl:l.length=i) (hi:i<n) (x:Int):l ++ [x] ++ List.replicate (n - (i+1)) 0=(l ++ List.replicate (n - i) 0).set i x:=by
 rw [List.set_append_right _ _ (by omega),hl,Nat.sub_self,show n - i=(n - (i+1))+1 by omega,List.replicate_succ,List.set_cons_zero];simp
theorem nv {l:List Int} {i n:Nat} (hl:l.length=i) (hi:i<n):(l ++ List.replicate (n - i) (0:Int))[i]?=some 0:=by
 rw [List.getElem?_append_right (by omega),hl,Nat.sub_self,List.getElem?_replicate,if_pos (by omega)]
theorem nu {l:List Int} {i n:Nat} (hl:l.length=i) (hi:i≤n):(l ++ List.replicate (n - i) (0:Int)).length=n:=by
 rw [List.length_append,List.length_replicate];omega
theorem ji (xs ys:List Int) (s:Int) (va vb:Value) (w:World) (ba bb:Nat) (hs:s=1∨s=-1) (hoa:aF w ba va xs) (zR:aF w bb vb ys) (hla:Wh.bO xs) (hlb:Wh.bO ys) (hnn:0≤Wh.val xs+s*Wh.val ys) (hl1:xs.length≤100000) (hl2:ys.length≤100000) :
  Calls Tryz.prog 126 #[va,vb,.int .i64 s] w fun e w'=>∃ v,e=.returned v∧jg w' w.heap.size v (Wh.val xs+s*Wh.val ys) (xs.length+ys.length+1)∧Below w.heap.size w w':=by
 obtain ⟨aa,o_,rfl,hma,hva⟩:=hoa.seen;obtain ⟨ab,s_,rfl,hmb,hvb⟩:=zR.seen;have hva:=yI hva;have hvb:=yI hvb;have hla:=yI hla;have hlb:=yI hlb;have hnn:=yI hnn;clear hma hmb hoa zR
 by_cases hab:xs.length<ys.length
 ·obtain ⟨w1,hrun,hown1,hg1⟩:=lQ w (ys.length+1) (by omega)
  rw [show ((ys.length+1:Nat):Int)=(ys.length:Int)+1 by omega] at hrun;have hb1:Below w.heap.size w w1:=cM hg1 (yM _) (fun k hk=>by cases hk);clear hg1;go_enter Tryz.func126,Tryz.ntmps126
  go_wp2
  go_loopw [8,9,10,20,46,51] (fun vc _ _ vi _ _ wr=>∃ (i:Nat) (o:List Int) (c:Int),i≤ys.length+1∧vi=.int .i64 i∧vc=.int .i64 c∧aF wr w.heap.size (.slice (some ⟨w.heap.size,0,none⟩) (ys.length+1) (ys.length+1)) (o ++ List.replicate (ys.length+1 - i) 0)∧Wh.fH xs ys s i o c∧Below w.heap.size w wr) (fun _ _ _ vi _ _ _=>ys.length+1 - (intOf vi).toNat)
  case atStart=>exact ⟨0,[],0,by omega,rfl,rfl,by simpa using hown1,Wh.fH.start xs ys s,hb1⟩
  case round=>
  clear hown1 hb1;obtain ⟨i,o,c,hi,rfl,rfl,hown,hai,hbr⟩:=hrel
  by_cases hlt:i<ys.length+1
  ·have hrg:=hai.rng hs hla.out hlb.out
   have hl0:=nu hai.len hi;have hc0:=aF.cellAt hl0.symm hown (nv hai.len hlt);have hf0:wr.frozen? ⟨w.heap.size,i,none⟩=false:=fM hl0 hown i
   have hst:=yI fun x=>aF.set hl0.symm hown x (oW hai.len hlt x)
   have hstep:=yI fun x c' h1 h2 h3 h4=>hai.step (x:=x) (c':=c') h1 h2 h3 h4
   have EF:=hbr.size;have zI:=yI hbr;clear hown hl0 hai
   by_cases ha:i<xs.length
   ·obtain ⟨ga,xa,ea,hga,hxa,hca⟩:=hva.out i ha
    subst ea;have hca:=aE hbr hca;rw [Wh.cw hxa.out] at hrg hstep;clear hxa
    by_cases hb:i<ys.length
    ·obtain ⟨gb,xb,eb,hgb,hxb,hcb⟩:=hvb.out i hb
     subst eb;have hcb:=aE hbr hcb;have hlx:=hlb.out xb (List.mem_of_getElem? hxb.out);unfold Wh.lim at hlx
     have hsx:-9999≤s*xb∧s*xb≤9999:=by rcases hs with rfl | rfl <;> omega
     rw [Wh.cw hxb.out] at hrg hstep;generalize hsb:s*xb=sb at *;clear hxb hlx
     by_cases hx0:c+xa+sb<0
     ·skip
      have hS:=hstep.out (c+xa+sb+10000) (-1) ⟨by omega,by omega⟩ (by omega) (by intro h1;first | omega | (rcases hs with h | h <;> omega)) (by intro h1;first | omega | (rcases hs with h | h <;> omega));have hS:=yI hS;have hO:=yI (hst.out (c+xa+sb+10000));clear hstep hst;go_wp2
      go_roundw
      case rel=>exact ⟨i+1,_,_,by omega,by go_num,by go_num,hO.out.1,hS.out,zI.out.setCell (yM _) _⟩
      case measure=>simp [intOf];omega
     by_cases hx1:10000≤c+xa+sb
     ·skip
      have hS:=hstep.out (c+xa+sb - 10000) (1) ⟨by omega,by omega⟩ (by omega) (by intro h1;first | omega | (rcases hs with h | h <;> omega)) (by intro h1;first | omega | (rcases hs with h | h <;> omega));have hS:=yI hS;have hO:=yI (hst.out (c+xa+sb - 10000));clear hstep hst;go_wp2
      go_roundw
      case rel=>exact ⟨i+1,_,_,by omega,by go_num,by go_num,hO.out.1,hS.out,zI.out.setCell (yM _) _⟩
      case measure=>simp [intOf];omega
     skip
     have hS:=hstep.out (c+xa+sb) (0) ⟨by omega,by omega⟩ (by omega) (by intro h1;first | omega | (rcases hs with h | h <;> omega)) (by intro h1;first | omega | (rcases hs with h | h <;> omega));have hS:=yI hS;have hO:=yI (hst.out (c+xa+sb));clear hstep hst;go_wp2
     go_roundw
     case rel=>exact ⟨i+1,_,_,by omega,by go_num,by go_num,hO.out.1,hS.out,zI.out.setCell (yM _) _⟩
     case measure=>simp [intOf];omega
    rw [Wh.cr (l:=ys) (by omega),Int.mul_zero] at hrg hstep
    exfalso;omega
   rw [Wh.cr (by omega)] at hrg hstep
   by_cases hb:i<ys.length
   ·obtain ⟨gb,xb,eb,hgb,hxb,hcb⟩:=hvb.out i hb
    subst eb;have hcb:=aE hbr hcb;have hlx:=hlb.out xb (List.mem_of_getElem? hxb.out);unfold Wh.lim at hlx
    have hsx:-9999≤s*xb∧s*xb≤9999:=by rcases hs with rfl | rfl <;> omega
    rw [Wh.cw hxb.out] at hrg hstep;generalize hsb:s*xb=sb at *;clear hxb hlx
    by_cases hx0:c+sb<0
    ·skip
     have hS:=hstep.out (c+sb+10000) (-1) ⟨by omega,by omega⟩ (by omega) (by intro h1;first | omega | (rcases hs with h | h <;> omega)) (by intro h1;first | omega | (rcases hs with h | h <;> omega));have hS:=yI hS;have hO:=yI (hst.out (c+sb+10000));clear hstep hst;go_wp2
     go_roundw
     case rel=>exact ⟨i+1,_,_,by omega,by go_num,by go_num,hO.out.1,hS.out,zI.out.setCell (yM _) _⟩
     case measure=>simp [intOf];omega
    by_cases hx1:10000≤c+sb
    ·skip
     have hS:=hstep.out (c+sb - 10000) (1) ⟨by omega,by omega⟩ (by omega) (by intro h1;first | omega | (rcases hs with h | h <;> omega)) (by intro h1;first | omega | (rcases hs with h | h <;> omega));have hS:=yI hS;have hO:=yI (hst.out (c+sb - 10000));clear hstep hst;go_wp2
     go_roundw
     case rel=>exact ⟨i+1,_,_,by omega,by go_num,by go_num,hO.out.1,hS.out,zI.out.setCell (yM _) _⟩
     case measure=>simp [intOf];omega
    skip
    have hS:=hstep.out (c+sb) (0) ⟨by omega,by omega⟩ (by omega) (by intro h1;first | omega | (rcases hs with h | h <;> omega)) (by intro h1;first | omega | (rcases hs with h | h <;> omega));have hS:=yI hS;have hO:=yI (hst.out (c+sb));clear hstep hst;go_wp2
    go_roundw
    case rel=>exact ⟨i+1,_,_,by omega,by go_num,by go_num,hO.out.1,hS.out,zI.out.setCell (yM _) _⟩
    case measure=>simp [intOf];omega
   rw [Wh.cr (l:=ys) (by omega),Int.mul_zero] at hrg hstep
   by_cases hx0:c<0
   ·skip
    have hS:=hstep.out (c+10000) (-1) ⟨by omega,by omega⟩ (by omega) (by intro h1;first | omega | (rcases hs with h | h <;> omega)) (by intro h1;first | omega | (rcases hs with h | h <;> omega));have hS:=yI hS;have hO:=yI (hst.out (c+10000));clear hstep hst;go_wp2
    go_roundw
    case rel=>exact ⟨i+1,_,_,by omega,by go_num,by go_num,hO.out.1,hS.out,zI.out.setCell (yM _) _⟩
    case measure=>simp [intOf];omega
   by_cases hx1:10000≤c
   ·exfalso;omega
   skip
   have hS:=hstep.out (c) (0) ⟨by omega,by omega⟩ (by omega) (by intro h1;first | omega | (rcases hs with h | h <;> omega)) (by intro h1;first | omega | (rcases hs with h | h <;> omega));have hS:=yI hS;have hO:=yI (hst.out (c));clear hstep hst;go_wp2
   go_roundw
   case rel=>exact ⟨i+1,_,_,by omega,by go_num,by go_num,hO.out.1,hS.out,zI.out.setCell (yM _) _⟩
   case measure=>simp [intOf];omega
  obtain rfl:i=ys.length+1:=by omega
  have hf:=hai.fin hs (by omega) (by omega) hnn.out (Wh.sum_lt hs hla.out hlb.out (by omega) (by omega));have hlen:=hai.len;rw [Nat.sub_self] at hown;have hres:Hid (jg wr w.heap.size (.slice (some ⟨w.heap.size,0,none⟩) (ys.length+1) (ys.length+1)) (Wh.val xs+s*Wh.val ys) (xs.length+ys.length+1)):=yI ⟨o,by simpa using hown,hai.ls,hf.2,by omega⟩;clear hown hai hf hlen;go_wp2;go_ret;exact ⟨_,rfl,hres.out,hbr⟩
 obtain ⟨w1,hrun,hown1,hg1⟩:=lQ w (xs.length+1) (by omega);rw [show ((xs.length+1:Nat):Int)=(xs.length:Int)+1 by omega] at hrun;have hb1:Below w.heap.size w w1:=cM hg1 (yM _) (fun k hk=>by cases hk);clear hg1;go_enter Tryz.func126,Tryz.ntmps126
 go_wp2
 go_loopw [8,9,10,20,46,51] (fun vc _ _ vi _ _ wr=>∃ (i:Nat) (o:List Int) (c:Int),i≤xs.length+1∧vi=.int .i64 i∧vc=.int .i64 c∧aF wr w.heap.size (.slice (some ⟨w.heap.size,0,none⟩) (xs.length+1) (xs.length+1)) (o ++ List.replicate (xs.length+1 - i) 0)∧Wh.fH xs ys s i o c∧Below w.heap.size w wr) (fun _ _ _ vi _ _ _=>xs.length+1 - (intOf vi).toNat)
 case atStart=>exact ⟨0,[],0,by omega,rfl,rfl,by simpa using hown1,Wh.fH.start xs ys s,hb1⟩
 case round=>
 clear hown1 hb1;obtain ⟨i,o,c,hi,rfl,rfl,hown,hai,hbr⟩:=hrel
 by_cases hlt:i<xs.length+1
 ·have hrg:=hai.rng hs hla.out hlb.out
  have hl0:=nu hai.len hi;have hc0:=aF.cellAt hl0.symm hown (nv hai.len hlt);have hf0:wr.frozen? ⟨w.heap.size,i,none⟩=false:=fM hl0 hown i
  have hst:=yI fun x=>aF.set hl0.symm hown x (oW hai.len hlt x)
  have hstep:=yI fun x c' h1 h2 h3 h4=>hai.step (x:=x) (c':=c') h1 h2 h3 h4
  have EF:=hbr.size;have zI:=yI hbr;clear hown hl0 hai
  by_cases ha:i<xs.length
  ·obtain ⟨ga,xa,ea,hga,hxa,hca⟩:=hva.out i ha
   subst ea;have hca:=aE hbr hca;rw [Wh.cw hxa.out] at hrg hstep;clear hxa
   by_cases hb:i<ys.length
   ·obtain ⟨gb,xb,eb,hgb,hxb,hcb⟩:=hvb.out i hb
    subst eb;have hcb:=aE hbr hcb;have hlx:=hlb.out xb (List.mem_of_getElem? hxb.out);unfold Wh.lim at hlx
    have hsx:-9999≤s*xb∧s*xb≤9999:=by rcases hs with rfl | rfl <;> omega
    rw [Wh.cw hxb.out] at hrg hstep;generalize hsb:s*xb=sb at *;clear hxb hlx
    by_cases hx0:c+xa+sb<0
    ·skip
     have hS:=hstep.out (c+xa+sb+10000) (-1) ⟨by omega,by omega⟩ (by omega) (by intro h1;first | omega | (rcases hs with h | h <;> omega)) (by intro h1;first | omega | (rcases hs with h | h <;> omega));have hS:=yI hS;have hO:=yI (hst.out (c+xa+sb+10000));clear hstep hst;go_wp2
     go_roundw
     case rel=>exact ⟨i+1,_,_,by omega,by go_num,by go_num,hO.out.1,hS.out,zI.out.setCell (yM _) _⟩
     case measure=>simp [intOf];omega
    by_cases hx1:10000≤c+xa+sb
    ·skip
     have hS:=hstep.out (c+xa+sb - 10000) (1) ⟨by omega,by omega⟩ (by omega) (by intro h1;first | omega | (rcases hs with h | h <;> omega)) (by intro h1;first | omega | (rcases hs with h | h <;> omega));have hS:=yI hS;have hO:=yI (hst.out (c+xa+sb - 10000));clear hstep hst;go_wp2
     go_roundw
     case rel=>exact ⟨i+1,_,_,by omega,by go_num,by go_num,hO.out.1,hS.out,zI.out.setCell (yM _) _⟩
     case measure=>simp [intOf];omega
    skip
    have hS:=hstep.out (c+xa+sb) (0) ⟨by omega,by omega⟩ (by omega) (by intro h1;first | omega | (rcases hs with h | h <;> omega)) (by intro h1;first | omega | (rcases hs with h | h <;> omega));have hS:=yI hS;have hO:=yI (hst.out (c+xa+sb));clear hstep hst;go_wp2
    go_roundw
    case rel=>exact ⟨i+1,_,_,by omega,by go_num,by go_num,hO.out.1,hS.out,zI.out.setCell (yM _) _⟩
    case measure=>simp [intOf];omega
   rw [Wh.cr (l:=ys) (by omega),Int.mul_zero] at hrg hstep
   by_cases hx0:c+xa<0
   ·skip
    have hS:=hstep.out (c+xa+10000) (-1) ⟨by omega,by omega⟩ (by omega) (by intro h1;first | omega | (rcases hs with h | h <;> omega)) (by intro h1;first | omega | (rcases hs with h | h <;> omega));have hS:=yI hS;have hO:=yI (hst.out (c+xa+10000));clear hstep hst;go_wp2
    go_roundw
    case rel=>exact ⟨i+1,_,_,by omega,by go_num,by go_num,hO.out.1,hS.out,zI.out.setCell (yM _) _⟩
    case measure=>simp [intOf];omega
   by_cases hx1:10000≤c+xa
   ·skip
    have hS:=hstep.out (c+xa - 10000) (1) ⟨by omega,by omega⟩ (by omega) (by intro h1;first | omega | (rcases hs with h | h <;> omega)) (by intro h1;first | omega | (rcases hs with h | h <;> omega));have hS:=yI hS;have hO:=yI (hst.out (c+xa - 10000));clear hstep hst;go_wp2
    go_roundw
    case rel=>exact ⟨i+1,_,_,by omega,by go_num,by go_num,hO.out.1,hS.out,zI.out.setCell (yM _) _⟩
    case measure=>simp [intOf];omega
   skip
   have hS:=hstep.out (c+xa) (0) ⟨by omega,by omega⟩ (by omega) (by intro h1;first | omega | (rcases hs with h | h <;> omega)) (by intro h1;first | omega | (rcases hs with h | h <;> omega));have hS:=yI hS;have hO:=yI (hst.out (c+xa));clear hstep hst;go_wp2
   go_roundw
   case rel=>exact ⟨i+1,_,_,by omega,by go_num,by go_num,hO.out.1,hS.out,zI.out.setCell (yM _) _⟩
   case measure=>simp [intOf];omega
  rw [Wh.cr (by omega)] at hrg hstep
  by_cases hb:i<ys.length
  ·obtain ⟨gb,xb,eb,hgb,hxb,hcb⟩:=hvb.out i hb
   subst eb;have hcb:=aE hbr hcb;have hlx:=hlb.out xb (List.mem_of_getElem? hxb.out);unfold Wh.lim at hlx
   have hsx:-9999≤s*xb∧s*xb≤9999:=by rcases hs with rfl | rfl <;> omega
   rw [Wh.cw hxb.out] at hrg hstep;generalize hsb:s*xb=sb at *;clear hxb hlx
   exfalso;omega
  rw [Wh.cr (l:=ys) (by omega),Int.mul_zero] at hrg hstep
  by_cases hx0:c<0
  ·skip
   have hS:=hstep.out (c+10000) (-1) ⟨by omega,by omega⟩ (by omega) (by intro h1;first | omega | (rcases hs with h | h <;> omega)) (by intro h1;first | omega | (rcases hs with h | h <;> omega));have hS:=yI hS;have hO:=yI (hst.out (c+10000));clear hstep hst;go_wp2
   go_roundw
   case rel=>exact ⟨i+1,_,_,by omega,by go_num,by go_num,hO.out.1,hS.out,zI.out.setCell (yM _) _⟩
   case measure=>simp [intOf];omega
  by_cases hx1:10000≤c
  ·exfalso;omega
  skip
  have hS:=hstep.out (c) (0) ⟨by omega,by omega⟩ (by omega) (by intro h1;first | omega | (rcases hs with h | h <;> omega)) (by intro h1;first | omega | (rcases hs with h | h <;> omega));have hS:=yI hS;have hO:=yI (hst.out (c));clear hstep hst;go_wp2
  go_roundw
  case rel=>exact ⟨i+1,_,_,by omega,by go_num,by go_num,hO.out.1,hS.out,zI.out.setCell (yM _) _⟩
  case measure=>simp [intOf];omega
 obtain rfl:i=xs.length+1:=by omega
 have hf:=hai.fin hs (by omega) (by omega) hnn.out (Wh.sum_lt hs hla.out hlb.out (by omega) (by omega));have hlen:=hai.len;rw [Nat.sub_self] at hown;have hres:Hid (jg wr w.heap.size (.slice (some ⟨w.heap.size,0,none⟩) (xs.length+1) (xs.length+1)) (Wh.val xs+s*Wh.val ys) (xs.length+ys.length+1)):=yI ⟨o,by simpa using hown,hai.ls,hf.2,by omega⟩;clear hown hai hf hlen;go_wp2;go_ret;exact ⟨_,rfl,hres.out,hbr⟩
theorem rB (a b c d:Int) (w:World) :
  Calls Tryz.prog 42 #[.agg #[.int .i64 a,.int .i64 b],.agg #[.int .i64 c,.int .i64 d]] w fun e w'=>e=.returned (.bool (a == c && b == d))∧Below w.heap.size w w':=by
 by_cases h1:a=c <;> by_cases h2:b=d
 all_goals
  go_enter Tryz.func42,Tryz.ntmps42
  go_wp2;go_ret;exact ⟨dB (by simp [h1,h2]),(by repeat (first | exact yL _ _ | refine aQ ?_ _ | refine aS ?_ (by assumption) | refine Below.drew ?_ | refine yK ?_ (by first | exact yM _ | exact Nat.le_add_right _ _ | (simp <;> omega)) _ | refine aL ?_ _))⟩
noncomputable def dy (n d:Int):Bool:=M.ins d 1 1000000000 && M.ins n (-1000000000) 1000000000 && (M.gcd n d == 1)
theorem iD (n d:Int) (w:World) :
  Calls Tryz.prog 62 #[.agg #[.int .i64 n,.int .i64 d]] w fun e w'=>e=.returned (.bool (dy n d))∧Below w.heap.size w w':=by
 unfold dy
 cases h1:M.ins d 1 1000000000
 ·go_enter Tryz.func62,Tryz.ntmps62
  go_wp2_with (go_at_call 48;refine (cn _ _ _ _).mono ?_;rintro e w' ⟨rfl,rfl⟩)
  go_ret;exact ⟨dB (by simp),(by repeat (first | exact yL _ _ | refine aQ ?_ _ | refine aS ?_ (by assumption) | refine Below.drew ?_ | refine yK ?_ (by first | exact yM _ | exact Nat.le_add_right _ _ | (simp <;> omega)) _ | refine aL ?_ _))⟩
 obtain ⟨d1,d2⟩:=M.fY h1
 cases h2:M.ins n (-1000000000) 1000000000
 ·go_enter Tryz.func62,Tryz.ntmps62
  go_wp2_with (go_at_call 48;refine (cn _ _ _ _).mono ?_;rintro e w' ⟨rfl,rfl⟩)
  go_ret;exact ⟨dB (by simp),(by repeat (first | exact yL _ _ | refine aQ ?_ _ | refine aS ?_ (by assumption) | refine Below.drew ?_ | refine yK ?_ (by first | exact yM _ | exact Nat.le_add_right _ _ | (simp <;> omega)) _ | refine aL ?_ _))⟩
 obtain ⟨n1,n2⟩:=M.fY h2;go_enter Tryz.func62,Tryz.ntmps62
 go_wp2_with (first | (go_at_call 48;refine (cn _ _ _ _).mono ?_;rintro e w' ⟨rfl,rfl⟩) | (go_at_call 75;refine (kA _ _ _ (by omega) (by omega) (by omega) (by omega)).mono ?_;rintro e w' ⟨rfl,mq,rfl⟩))
 go_ret;exact ⟨dB (by simp),(by repeat (first | exact yL _ _ | refine aQ ?_ _ | refine aS ?_ (by assumption) | refine Below.drew ?_ | refine yK ?_ (by first | exact yM _ | exact Nat.le_add_right _ _ | (simp <;> omega)) _ | refine aL ?_ _))⟩
theorem d6 {P:Program} {f:FuncId} {args:Array Value} {w:World} {n:Nat} {v:Value} (h:Calls P f args (w.drewN n) fun e w'=>e=.returned v∧w.drewN n=w') :
  Calls P f args (w.drewN n) fun e w''=>e=.returned v∧∃ m,w''=w.drewN m:=h.mono fun _ _ ⟨he,hm⟩=>⟨he,n,hm.symm⟩
theorem dV {P:Program} {f:FuncId} {args:Array Value} {w:World} {a n:Nat} {v:Value} (h:Calls P f args (w.drewN (a+n)) fun e w'=>e=.returned v∧w.drewN (a+n)=w') :
  Calls P f args (w.drewN (a+n)) fun e w''=>e=.returned v∧∃ m,w''=w.drewN (a+m):=h.mono fun _ _ ⟨he,hm⟩=>⟨he,n,hm.symm⟩
theorem j9 (n d:Int) (w:World) :
  Calls Tryz.prog 61 #[.agg #[.int .i64 n,.int .i64 d]] w fun e w'=>e=.returned (.bool (dy n d))∧Below w.heap.size w w':=by
 unfold dy
 have E1:=fun w=>dT d 1 1000000000 w
 have E2:=fun w=>dT n (-1000000000) 1000000000 w
 have hgg:M.gcd n.natAbs d.natAbs=M.gcd n d:=by simp [M.gcd,Int.gcd]
 cases h1:M.ins d 1 1000000000 <;> simp only [h1] at E1 <;> have E1:=yI E1
 ·have E2:=yI E2
  go_enter Tryz.func61,Tryz.ntmps61
  go_wp2
  go_quiet ((go_at_call 47;first | (with_reducible exact d6 (E1.out _)) | (with_reducible exact dV (E1.out _)) | (with_reducible exact d6 (E2.out _)) | (with_reducible exact dV (E2.out _))))
  go_wp2;go_ret;exact ⟨dB (by simp),(by repeat (first | exact yL _ _ | refine aQ ?_ _ | refine aS ?_ (by assumption) | refine Below.drew ?_ | refine yK ?_ (by first | exact yM _ | exact Nat.le_add_right _ _ | (simp <;> omega)) _ | refine aL ?_ _))⟩
 obtain ⟨d1,d2⟩:=M.fY h1
 cases h2:M.ins n (-1000000000) 1000000000 <;> simp only [h2] at E2 <;> have E2:=yI E2
 ·go_enter Tryz.func61,Tryz.ntmps61
  go_wp2
  go_quiet ((go_at_call 47;first | (with_reducible exact d6 (E1.out _)) | (with_reducible exact dV (E1.out _)) | (with_reducible exact d6 (E2.out _)) | (with_reducible exact dV (E2.out _))))
  go_wp2;go_ret;exact ⟨dB (by simp),(by repeat (first | exact yL _ _ | refine aQ ?_ _ | refine aS ?_ (by assumption) | refine Below.drew ?_ | refine yK ?_ (by first | exact yM _ | exact Nat.le_add_right _ _ | (simp <;> omega)) _ | refine aL ?_ _))⟩
 obtain ⟨n1,n2⟩:=M.fY h2
 have hd:(d.natAbs:Int)=d:=by omega
 rw [hd] at hgg;have hgg:=yI hgg;go_enter Tryz.func61,Tryz.ntmps61
 go_wp2
 go_quiet ((first | (go_at_call 47;first | (with_reducible exact d6 (E1.out _)) | (with_reducible exact dV (E1.out _)) | (with_reducible exact d6 (E2.out _)) | (with_reducible exact dV (E2.out _))) | (go_at_call 84;first | exact d6 (dJ _ _ (by omega) (by omega)) | exact dV (dJ _ _ (by omega) (by omega))) | (go_at_call 83;first | exact d6 (dM _ _ _ (by omega) (by omega) (by omega) (by omega)) | exact dV (dM _ _ _ (by omega) (by omega) (by omega) (by omega)))))
 go_wp2;go_ret;exact ⟨dB (by simp [hgg.out]),(by repeat (first | exact yL _ _ | refine aQ ?_ _ | refine aS ?_ (by assumption) | refine Below.drew ?_ | refine yK ?_ (by first | exact yM _ | exact Nat.le_add_right _ _ | (simp <;> omega)) _ | refine aL ?_ _))⟩
theorem nk (x:Int) (w:World):Calls Tryz.prog 153 #[.int .i64 x] w fun e w'=>e=.returned (.bool false)∧w=w':=by
 go_enter Tryz.func153,Tryz.ntmps153
 go_wp2;go_ret;exact ⟨by simp,rfl⟩
theorem so (x y:Int) (w:World):Calls Tryz.prog 140 #[.int .i64 x,.int .i64 y] w fun e w'=>e=.returned (.int .i64 (Wh.zS x y))∧w=w':=by
 unfold Wh.zS
 by_cases h1:x<y
 ·go_enter Tryz.func140,Tryz.ntmps140
  go_wp2_with (go_at_call 153;refine (nk _ _).mono ?_;rintro e w' ⟨rfl,rfl⟩)
  go_ret;exact ⟨by simp [h1],rfl⟩
 by_cases h2:y<x
 all_goals
  go_enter Tryz.func140,Tryz.ntmps140
  go_wp2_with (go_at_call 153;refine (nk _ _).mono ?_;rintro e w' ⟨rfl,rfl⟩)
  go_ret;exact ⟨by simp [h1,h2],rfl⟩
namespace Wh
theorem vU {m n:Nat} (h:(d_ m).length≠(d_ n).length):zS ((d_ m).length:Int) ((d_ n).length:Int)=zS (m:Int) (n:Int):=by
 by_cases h':(d_ m).length<(d_ n).length
 ·have:=jy h'
  rw [gA (by omega),gA (by omega)]
 have:=jy (m:=n) (n:=m) (by omega);rw [mf (by omega),mf (by omega)]
end Wh
theorem dQ (m n:Nat) (b1 b2:Bool) (va vb:Value) (w:World) (ba bb:Nat) (hoa:aF w ba va (Wh.d_ m)) (zR:aF w bb vb (Wh.d_ n)) (hl1:(Wh.d_ m).length≤100000) (hl2:(Wh.d_ n).length≤100000) :
  Calls Tryz.prog 127 #[.agg #[.bool b1,va],.agg #[.bool b2,vb]] w fun e w'=>e=.returned (.int .i64 (Wh.zS (m:Int) (n:Int)))∧Below w.heap.size w w':=by
 obtain ⟨aa,o_,rfl,hma,hva⟩:=hoa.seen;obtain ⟨ab,s_,rfl,hmb,hvb⟩:=zR.seen;have hva:=yI hva;have hvb:=yI hvb;have hla:=yI (Wh.an m);have hlb:=yI (Wh.an n);have hv1:=yI (Wh.bP m);have hv2:=yI (Wh.bP n);clear hma hmb hoa zR;have bx:=(ai.new w (.bool b1) (.slice aa (Wh.d_ m).length o_) 136).alloc (.cells #[.bool b2,.slice ab (Wh.d_ n).length s_] 136);have bz:=ai.new2 w (.cells #[.bool b1,.slice aa (Wh.d_ m).length o_] 136) (.bool b2) (.slice ab (Wh.d_ n).length s_) 136
 by_cases hne:(Wh.d_ m).length=(Wh.d_ n).length
 ·generalize Wh.d_ m=xs at *
  generalize Wh.d_ n=ys at *;generalize hxl:xs.length=L at *;have hyl:=hne.symm;have M4:=yI hyl;rw [←hne] at bx bz hl2 hvb ⊢;clear hne hyl;have hyl:Hid (ys.length=L):=yI M4.out;have hxl:=yI hxl;go_enter Tryz.func127,Tryz.ntmps127
  go_wp2
  go_loopw [5] (fun vi wr=>∃ k:Nat,k≤L∧vi=.int .i64 ((k:Int) - 1)∧(∀ q:Nat,k≤q→q<L→Wh.nth xs q=Wh.nth ys q)∧Hid (ai wr w.heap.size (.bool b1) (.slice aa L o_))∧Hid (ai wr (w.heap.size+1) (.bool b2) (.slice ab L s_))∧Below w.heap.size w wr) (fun vi _=>(intOf vi+1).toNat)
  case atStart=>exact ⟨L,yM _,rfl,fun q h1 h2=>by omega,yI bx,yI bz,(by repeat (first | exact yL _ _ | refine aQ ?_ _ | refine aS ?_ (by assumption) | refine Below.drew ?_ | refine yK ?_ (by first | exact yM _ | exact Nat.le_add_right _ _ | (simp <;> omega)) _ | refine aL ?_ _))⟩
  case round=>
  clear bx bz;obtain ⟨k,hk,rfl,heq,zY,CK,hbr⟩:=hrel;have heq:=yI heq
  cases k with
  | zero=>
   have hz:Hid (Wh.zS (m:Int) (n:Int)=0):=yI (by
    rw [←hv1.out,←hv2.out]
    exact Wh.cmp_eq (n:=L) (by rw [hxl.out];exact yM _) (by rw [hyl.out];exact yM _) fun q h=>heq.out q (Nat.zero_le _) h)
   go_wp2;go_ret;exact ⟨by rw [hz.out] <;> rfl,hbr⟩
  | succ j=>
  obtain ⟨ga,x,ea,hga,hxa,hca⟩:=hva.out j (by omega);obtain ⟨gb,y,eb,hgb,hxb,hcb⟩:=hvb.out j (by omega);subst ea eb;have hca:=aE hbr hca;have hcb:=aE hbr hcb;have d1:=zY.out.c1;have d2:=CK.out.c1;have hnx:=yI (Wh.cw hxa.out);have hny:=yI (Wh.cw hxb.out)
  by_cases hxy:x=y
  ·subst hxy
   have heq2:Hid (∀ q:Nat,j≤q→q<L→Wh.nth xs q=Wh.nth ys q):=yI fun q h1 h2=>by
    by_cases hq:q=j
    ·subst hq;rw [hnx.out,hny.out]
    exact heq.out q (by omega) h2
   go_wp2
   go_quiet (fail)
   go_wp2
   go_roundw
   case rel=>exact ⟨j,by omega,by go_num,heq2.out,yI (zY.out.keep (aL (yL _ _) _)),yI (CK.out.keep (aL (yL _ _) _)),aL hbr _⟩
   case measure=>first | (simp [intOf];done) | (simp [intOf];omega)
  have hz:Hid (Wh.zS (m:Int) (n:Int)=Wh.zS x y):=yI (by
   rw [←hv1.out,←hv2.out]
   have l1:xs.length≤L:=by rw [hxl.out];exact yM _
   have l2:ys.length≤L:=by rw [hyl.out];exact yM _
   by_cases hlt:x<y
   ·rw [Wh.gA hlt]
    exact Wh.sr hla.out hlb.out l1 l2 (i:=j) (by omega) (fun q h1 h2=>heq.out q (by omega) h2) (by rw [hnx.out,hny.out];exact hlt)
   rw [Wh.mf (x:=x) (y:=y) (by omega)]
   exact Wh.sp hla.out hlb.out l1 l2 (i:=j) (by omega) (fun q h1 h2=>heq.out q (by omega) h2) (by rw [hnx.out,hny.out];omega))
  have PC:=fun W=>so x y W
  generalize Wh.zS x y=z at *;have PC:=yI PC;go_wp2
  go_quiet (fail)
  go_wp2
  go_quiet ((go_at_call 140;first | (with_reducible exact d6 (PC.out _)) | (with_reducible exact dV (PC.out _))))
  go_wp2;go_ret;exact ⟨by rw [hz.out] <;> rfl,aL (aL hbr _) _⟩
 have PC:=fun W=>so (Wh.d_ m).length (Wh.d_ n).length W
 rw [Wh.vU hne] at PC;generalize Wh.zS (m:Int) (n:Int)=z at *;generalize (Wh.d_ n).length=l2,(Wh.d_ m).length=l1 at *;have PC:=yI PC;clear hva hvb hla hlb hv1 hv2;go_enter Tryz.func127,Tryz.ntmps127
 go_wp2_with (go_at_call 140;(with_reducible refine (PC.out _).mono ?_);rintro e w1 ⟨rfl,rfl⟩)
 go_ret;exact ⟨rfl,(by repeat (first | exact yL _ _ | refine aQ ?_ _ | refine aS ?_ (by assumption) | refine Below.drew ?_ | refine yK ?_ (by first | exact yM _ | exact Nat.le_add_right _ _ | (simp <;> omega)) _ | refine aL ?_ _))⟩
theorem fU (z y:Int) (n:Nat) (neg:Bool) (v:Value) (w:World) (base:Nat) (ho:jg w base v y n) (hn:n≤1000000) (hz:Wh.zo neg y=z) :
  Calls Tryz.prog 125 #[.bool neg,v] w fun e w'=>∃ sl,e=.returned (.agg #[.bool (decide (z<0)),sl])∧ah w' w.heap.size sl z∧Below w.heap.size w w':=by
 obtain ⟨o,h1,h2,h3,h4⟩:=ho;exact fV z neg o v w base h1 h2 (by omega) (by rw [h3];exact hz)
theorem aY {W:World} {p:Addr} {v:Value} (h:W.cell? p=some v):(W.drew).cell? p=some v:=h
theorem ai.store {w:World} {b:Nat} {u v:Value} (h:ai w b u v) (x y:Value):ai ((w.setCell ⟨b,0,none⟩ x).setCell ⟨b,1,none⟩ y) b x y:=by
 obtain ⟨h1,h2,h3,h4,h5⟩:=h;exact ⟨by simp [go_sem, *],by simp [go_sem, *],by simp [go_sem, *],by simp [go_sem, *],by simp [go_sem, *]⟩
theorem ai.other {w:World} {b c:Nat} {u v:Value} (h:ai w b u v) (hn:b≠c) (x y:Value):ai ((w.setCell ⟨c,0,none⟩ x).setCell ⟨c,1,none⟩ y) b u v:=
 have hg:=cS w c x y
 have hn':some b≠some c:=by simpa using hn
 ⟨hg.cell h.c0 hn',hg.cell h.c1 hn',(Gr.frozen hg h.size hn').trans h.f0,(Gr.frozen hg h.size hn').trans h.f1,Gr.kV hg h.size⟩
theorem ai.drew {w:World} {b:Nat} {u v:Value} (h:ai w b u v):ai w.drew b u v:=⟨h.c0,h.c1,h.f0,h.f1,h.size⟩
namespace Wh
theorem add_same {a b:Int} {s:Bool} (ha:decide (a<0)=s) (hb:decide (b<0)=s):zo s ((a.natAbs:Int)+1*(b.natAbs:Int))=a+b:=by
 cases s
 ·simp only [decide_eq_false_iff_not] at ha hb;simp only [zo,Bool.false_eq_true,if_false];omega
 simp only [decide_eq_true_eq] at ha hb;simp only [zo,if_true];omega
theorem dl {a b:Int} {s:Bool} (ha:decide (a<0)=s) (hb:decide (b<0)=!s):zo s ((a.natAbs:Int)+-1*(b.natAbs:Int))=a+b:=by
 cases s
 ·simp only [decide_eq_false_iff_not,Bool.not_false,decide_eq_true_eq] at ha hb;simp only [zo,Bool.false_eq_true,if_false];omega
 simp only [decide_eq_true_eq,Bool.not_true,decide_eq_false_iff_not] at ha hb;simp only [zo,if_true];omega
end Wh
theorem fo (a b:Int) (va vb:Value) (w:World) (ba bb:Nat) (hoa:ah w ba va a) (zR:ah w bb vb b) (hl1:(Wh.d_ a.natAbs).length≤10000) (hl2:(Wh.d_ b.natAbs).length≤10000) :
  Calls Tryz.prog 114 #[.agg #[.bool (decide (a<0)),va],.agg #[.bool (decide (b<0)),vb]] w fun e w'=>∃ sl,e=.returned (.agg #[.bool (decide (a+b<0)),sl])∧ah w' w.heap.size sl (a+b)∧Below w.heap.size w w':=by
 obtain ⟨aa,o_,rfl,-,-⟩:=aF.view hoa;obtain ⟨ab,s_,rfl,-,-⟩:=aF.view zR
 have PA:=fun s hs h0 W h1 h2=>ji (Wh.d_ a.natAbs) (Wh.d_ b.natAbs) s (.slice aa (Wh.d_ a.natAbs).length o_) (.slice ab (Wh.d_ b.natAbs).length s_) W ba bb hs h1 h2 (Wh.an _) (Wh.an _) h0 (by omega) (by omega)
 rw [Wh.bP,Wh.bP] at PA
 have PT:=fun s y (h:Wh.zo s y=a+b) W v base ho=>fU (a+b) y ((Wh.d_ a.natAbs).length+(Wh.d_ b.natAbs).length+1) s v W base ho (by omega) h
 have Al:Hid (∀ W,Below w.heap.size w W→aF W ba (.slice aa (Wh.d_ a.natAbs).length o_) (Wh.d_ a.natAbs)):=yI fun W h=>aF.below hoa h
 have BE:Hid (∀ W,Below w.heap.size w W→aF W bb (.slice ab (Wh.d_ b.natAbs).length s_) (Wh.d_ b.natAbs)):=yI fun W h=>aF.below zR h
 obtain ⟨s1,hs1⟩:∃ s,decide (a<0)=s:=⟨_,rfl⟩
 obtain ⟨s2,hs2⟩:∃ s,decide (b<0)=s:=⟨_,rfl⟩
 clear hoa zR
 by_cases hss:s1=s2
 ·subst hss
  have PT:=yI (PT s1 _ (Wh.add_same hs1 hs2));have PA:=yI (PA 1 (Or.inl rfl) (by omega));rw [hs1,hs2];clear hs1 hs2;generalize (a.natAbs:Int)+1*(b.natAbs:Int)=y at *;generalize Wh.d_ b.natAbs=ys,Wh.d_ a.natAbs=xs,a+b=z at *;generalize decide (z<0)=s,ys.length=l2,xs.length=l1 at *;have b1:=((ai.new w (.bool s1) (.slice aa l1 o_) 136).alloc (.cells #[.bool s1,.slice ab l2 s_] 136)).alloc (.cells #[.bool false,.slice none 0 0] 136);have b2:=(ai.new2 w (.cells #[.bool s1,.slice aa l1 o_] 136) (.bool s1) (.slice ab l2 s_) 136).alloc (.cells #[.bool false,.slice none 0 0] 136);have b3:=ai.new2 (w.alloc (.cells #[.bool s1,.slice aa l1 o_] 136)) (.cells #[.bool s1,.slice ab l2 s_] 136) (.bool false) (.slice none 0 0) 136;rw [yJ] at b3;have hB:=(((yL w.heap.size w).alloc (yM _) (.cells #[.bool s1,.slice aa l1 o_] 136)).alloc (by rw [yJ];omega) (.cells #[.bool s1,.slice ab l2 s_] 136)).alloc (by rw [yJ,yJ];omega) (.cells #[.bool false,.slice none 0 0] 136);generalize hw3:((w.alloc (.cells #[.bool s1,.slice aa l1 o_] 136)).alloc (.cells #[.bool s1,.slice ab l2 s_] 136)).alloc (.cells #[.bool false,.slice none 0 0] 136)=w3 at *;have e1:=b1.c0;have e2:=b1.c1;have e3:=b2.c0;have e4:=b2.c1;go_enter Tryz.func114,Tryz.ntmps114
  go_wp2
  go_region_held3 (fun W=>W.cell? ⟨w.heap.size,0,none⟩=some (.bool s1)∧W.cell? ⟨w.heap.size,1,none⟩=some (.slice aa l1 o_)∧W.cell? ⟨w.heap.size+1,0,none⟩=some (.bool s1)∧W.cell? ⟨w.heap.size+1,1,none⟩=some (.slice ab l2 s_)) (first | (refine ⟨?_,?_,?_,?_⟩ <;> (first | (with_reducible exact aE (by assumption) (by assumption)) | (with_reducible exact Gr.bB (by assumption)) | (with_reducible refine Gr.bR (by assumption) ?_;(intro yW;(try simp only [yJ,aO,World.heap_drewN,aI] at yW);omega)) | (with_reducible refine Gr.dH (by assumption) ?_ ?_ <;> (intro yW;(try simp only [yJ,aO,World.heap_drewN,aI] at yW);omega)) | exact aE (by assumption) (by assumption) | (with_reducible exact ay (by assumption) (by assumption) (by assumption)))) | (go_split_ands;(refine ⟨?_,?_,?_,?_⟩ <;> (first | (with_reducible exact aE (by assumption) (by assumption)) | (with_reducible exact Gr.bB (by assumption)) | (with_reducible refine Gr.bR (by assumption) ?_;(intro yW;(try simp only [yJ,aO,World.heap_drewN,aI] at yW);omega)) | (with_reducible refine Gr.dH (by assumption) ?_ ?_ <;> (intro yW;(try simp only [yJ,aO,World.heap_drewN,aI] at yW);omega)) | exact aE (by assumption) (by assumption) | (with_reducible exact ay (by assumption) (by assumption) (by assumption))))) | go_keep) ((first
   | (go_at_call 126;(with_reducible refine (PA.out _ (Al.out _ hB.drew) (BE.out _ hB.drew)).mono ?_);rintro e w4 ⟨v4,rfl,yh,hb4⟩;have B4:=hB.drew.trans (hb4.mono hB.size);have r4:=b3.drew.keep hb4;have AM:=aE hb4 (aY e1);have Aj:=aE hb4 (aY e2);have A9:=aE hb4 (aY e3);have BJ:=aE hb4 (aY e4);(have z4:w3.heap.size≤w4.heap.size:=hb4.size))
   | (go_at_call 125;(with_reducible refine (PT.out _ _ _ yh).mono ?_);rintro e w5 ⟨vc,rfl,hoc,hbc⟩;obtain ⟨ac,yS,rfl,hmc,yw⟩:=aF.view hoc;have B5:=f_ B4 hbc;have r5:=r4.keep hbc;have c0:=r5.c0;have c1:=r5.c1;have g0:=r5.f0;have g1:=r5.f1;have Cm:=aE hbc AM;have DE:=aE hbc Aj;have D_:=aE hbc A9;have EK:=aE hbc BJ;clear yw hmc)
   | fail "ARMS"))
  all_goals
   have hr:=cJ (w:=w) (w.heap.size+1+1) _ (.bool s) (by omega) (Nat.lt_of_lt_of_le b3.size z4) hoc B5;generalize (Wh.d_ z.natAbs).length=n2 at *;go_wp2;exact bodyPost_ret (v:=.agg #[.bool s,.slice ac n2 yS]) (by simp [results,Tryz.results114,go_sem, *]) rfl (⟨_,rfl,hr.1,hr.2⟩)
 have PA':=fun s hs h0 W h1 h2=>ji (Wh.d_ b.natAbs) (Wh.d_ a.natAbs) s (.slice ab (Wh.d_ b.natAbs).length s_) (.slice aa (Wh.d_ a.natAbs).length o_) W bb ba hs h1 h2 (Wh.an _) (Wh.an _) h0 (by omega) (by omega)
 rw [Wh.bP,Wh.bP] at PA'
 have EA:=fun s y (h:Wh.zo s y=a+b) W v base ho=>fU (a+b) y ((Wh.d_ b.natAbs).length+(Wh.d_ a.natAbs).length+1) s v W base ho (by omega) h
 have hx:(s1=false∧s2=true)∨(s1=true∧s2=false):=by cases s1 <;> cases s2 <;> simp_all
 clear hss
 rcases hx with ⟨rfl,rfl⟩ | ⟨rfl,rfl⟩
 ·skip
  have hd:=Wh.dl (a:=a) (b:=b) hs1 hs2;have hd':=Wh.dl (a:=b) (b:=a) hs2 hs1;rw [Int.add_comm b a] at hd'
  have PM:=fun W h1 h2=>dQ a.natAbs b.natAbs false true (.slice aa (Wh.d_ a.natAbs).length o_) (.slice ab (Wh.d_ b.natAbs).length s_) W ba bb h1 h2 (by omega) (by omega)
  rw [hs1,hs2];clear hs1 hs2
  by_cases hlt:a.natAbs<b.natAbs
  ·skip
   have PT:=yI (EA true _ hd');have PA:=yI (PA' (-1) (Or.inr rfl) (by omega));rw [Wh.gA (by omega)] at PM;have PM:=yI PM;clear hlt hd hd';generalize (b.natAbs:Int)+-1*(a.natAbs:Int)=y at *;generalize Wh.d_ b.natAbs=ys,Wh.d_ a.natAbs=xs,a+b=z at *;generalize decide (z<0)=s,ys.length=l2,xs.length=l1 at *;have b1:=((ai.new w (.bool false) (.slice aa l1 o_) 136).alloc (.cells #[.bool true,.slice ab l2 s_] 136)).alloc (.cells #[.bool false,.slice none 0 0] 136);have b2:=(ai.new2 w (.cells #[.bool false,.slice aa l1 o_] 136) (.bool true) (.slice ab l2 s_) 136).alloc (.cells #[.bool false,.slice none 0 0] 136);have b3:=ai.new2 (w.alloc (.cells #[.bool false,.slice aa l1 o_] 136)) (.cells #[.bool true,.slice ab l2 s_] 136) (.bool false) (.slice none 0 0) 136;rw [yJ] at b3;have hB:=(((yL w.heap.size w).alloc (yM _) (.cells #[.bool false,.slice aa l1 o_] 136)).alloc (by rw [yJ];omega) (.cells #[.bool true,.slice ab l2 s_] 136)).alloc (by rw [yJ,yJ];omega) (.cells #[.bool false,.slice none 0 0] 136);generalize hw3:((w.alloc (.cells #[.bool false,.slice aa l1 o_] 136)).alloc (.cells #[.bool true,.slice ab l2 s_] 136)).alloc (.cells #[.bool false,.slice none 0 0] 136)=w3 at *;have i1:=b1.c0;have i2:=b1.c1;have i3:=b2.c0;have i4:=b2.c1;go_enter Tryz.func114,Tryz.ntmps114
   go_wp2_with (go_at_call 127;(with_reducible refine (PM.out _ (Al.out _ hB) (BE.out _ hB)).mono ?_);rintro e wm ⟨rfl,zU⟩;have m1:=b1.keep zU;have m2:=b2.keep zU;have m3:=b3.keep zU;have j1:=m1.c0;have j2:=m1.c1;have j3:=m2.c0;have j4:=m2.c1;have k1:=m1.f0;have k2:=m1.f1;have k3:=m2.f0;have k4:=m2.f1;have Bm:=f_ hB zU)
   have n1:=(m1.store (.bool true) (.slice ab l2 s_)).other (c:=w.heap.size+1) (by omega) (.bool false) (.slice aa l1 o_);have n2:=(m2.other (c:=w.heap.size) (by omega) (.bool true) (.slice ab l2 s_)).store (.bool false) (.slice aa l1 o_);have n3:=(m3.other (c:=w.heap.size) (by omega) (.bool true) (.slice ab l2 s_)).other (c:=w.heap.size+1) (by omega) (.bool false) (.slice aa l1 o_);have Bn:=(((Bm.setCell (p:=⟨w.heap.size,0,none⟩) (yM _) (.bool true)).setCell (p:=⟨w.heap.size,1,none⟩) (yM _) (.slice ab l2 s_)).setCell (p:=⟨w.heap.size+1,0,none⟩) (Nat.le_succ _) (.bool false)).setCell (p:=⟨w.heap.size+1,1,none⟩) (Nat.le_succ _) (.slice aa l1 o_);generalize hwn:((((wm.setCell ⟨w.heap.size,0,none⟩ (.bool true)).setCell ⟨w.heap.size,1,none⟩ (.slice ab l2 s_)).setCell ⟨w.heap.size+1,0,none⟩ (.bool false)).setCell ⟨w.heap.size+1,1,none⟩ (.slice aa l1 o_))=wn at *;clear i1 i2 i3 i4 j1 j2 j3 j4 k1 k2 k3 k4 m1 m2 m3 b1 b2 b3 zU;have e1:=n1.c0;have e2:=n1.c1;have e3:=n2.c0;have e4:=n2.c1
   go_region_held3 (fun W=>W.cell? ⟨w.heap.size,0,none⟩=some (.bool true)∧W.cell? ⟨w.heap.size,1,none⟩=some (.slice ab l2 s_)∧W.cell? ⟨w.heap.size+1,0,none⟩=some (.bool false)∧W.cell? ⟨w.heap.size+1,1,none⟩=some (.slice aa l1 o_)) (first | (refine ⟨?_,?_,?_,?_⟩ <;> (first | (with_reducible exact aE (by assumption) (by assumption)) | (with_reducible exact Gr.bB (by assumption)) | (with_reducible refine Gr.bR (by assumption) ?_;(intro yW;(try simp only [yJ,aO,World.heap_drewN,aI] at yW);omega)) | (with_reducible refine Gr.dH (by assumption) ?_ ?_ <;> (intro yW;(try simp only [yJ,aO,World.heap_drewN,aI] at yW);omega)) | exact aE (by assumption) (by assumption) | (with_reducible exact ay (by assumption) (by assumption) (by assumption)))) | (go_split_ands;(refine ⟨?_,?_,?_,?_⟩ <;> (first | (with_reducible exact aE (by assumption) (by assumption)) | (with_reducible exact Gr.bB (by assumption)) | (with_reducible refine Gr.bR (by assumption) ?_;(intro yW;(try simp only [yJ,aO,World.heap_drewN,aI] at yW);omega)) | (with_reducible refine Gr.dH (by assumption) ?_ ?_ <;> (intro yW;(try simp only [yJ,aO,World.heap_drewN,aI] at yW);omega)) | exact aE (by assumption) (by assumption) | (with_reducible exact ay (by assumption) (by assumption) (by assumption))))) | go_keep) ((first
    | (go_at_call 126;(with_reducible refine (PA.out _ (BE.out _ Bn.drew) (Al.out _ Bn.drew)).mono ?_);rintro e w4 ⟨v4,rfl,yh,hb4⟩;have B4:=Bn.drew.trans (hb4.mono Bn.size);have r4:=n3.drew.keep hb4;have AM:=aE hb4 (aY e1);have Aj:=aE hb4 (aY e2);have A9:=aE hb4 (aY e3);have BJ:=aE hb4 (aY e4);(have z4:wn.heap.size≤w4.heap.size:=hb4.size))
    | (go_at_call 125;(with_reducible refine (PT.out _ _ _ yh).mono ?_);rintro e w5 ⟨vc,rfl,hoc,hbc⟩;obtain ⟨ac,yS,rfl,hmc,yw⟩:=aF.view hoc;have B5:=f_ B4 hbc;have r5:=r4.keep hbc;have c0:=r5.c0;have c1:=r5.c1;have g0:=r5.f0;have g1:=r5.f1;have Cm:=aE hbc AM;have DE:=aE hbc Aj;have D_:=aE hbc A9;have EK:=aE hbc BJ;clear yw hmc)
    | fail "ARMS"))
   all_goals
    have hr:=cJ (w:=w) (w.heap.size+1+1) _ (.bool s) (by omega) (Nat.lt_of_lt_of_le n3.size z4) hoc B5;generalize (Wh.d_ z.natAbs).length=zV at *;go_wp2;exact bodyPost_ret (v:=.agg #[.bool s,.slice ac zV yS]) (by simp [results,Tryz.results114,go_sem, *]) rfl (⟨_,rfl,hr.1,hr.2⟩)
  skip
  have PT:=yI (PT false _ hd);have PA:=yI (PA (-1) (Or.inr rfl) (by omega))
  have hr0:¬ Wh.zS (a.natAbs:Int) (b.natAbs:Int)<0:=by unfold Wh.zS;rw [if_neg (by omega)];split <;> omega
  generalize Wh.zS (a.natAbs:Int) (b.natAbs:Int)=rr at *;have PM:=yI PM;clear hlt hd hd';generalize (a.natAbs:Int)+-1*(b.natAbs:Int)=y at *;generalize Wh.d_ b.natAbs=ys,Wh.d_ a.natAbs=xs,a+b=z at *;generalize decide (z<0)=s,ys.length=l2,xs.length=l1 at *;have b1:=((ai.new w (.bool false) (.slice aa l1 o_) 136).alloc (.cells #[.bool true,.slice ab l2 s_] 136)).alloc (.cells #[.bool false,.slice none 0 0] 136);have b2:=(ai.new2 w (.cells #[.bool false,.slice aa l1 o_] 136) (.bool true) (.slice ab l2 s_) 136).alloc (.cells #[.bool false,.slice none 0 0] 136);have b3:=ai.new2 (w.alloc (.cells #[.bool false,.slice aa l1 o_] 136)) (.cells #[.bool true,.slice ab l2 s_] 136) (.bool false) (.slice none 0 0) 136;rw [yJ] at b3;have hB:=(((yL w.heap.size w).alloc (yM _) (.cells #[.bool false,.slice aa l1 o_] 136)).alloc (by rw [yJ];omega) (.cells #[.bool true,.slice ab l2 s_] 136)).alloc (by rw [yJ,yJ];omega) (.cells #[.bool false,.slice none 0 0] 136);generalize hw3:((w.alloc (.cells #[.bool false,.slice aa l1 o_] 136)).alloc (.cells #[.bool true,.slice ab l2 s_] 136)).alloc (.cells #[.bool false,.slice none 0 0] 136)=w3 at *;have i1:=b1.c0;have i2:=b1.c1;have i3:=b2.c0;have i4:=b2.c1;go_enter Tryz.func114,Tryz.ntmps114
  go_wp2_with (go_at_call 127;(with_reducible refine (PM.out _ (Al.out _ hB) (BE.out _ hB)).mono ?_);rintro e wm ⟨rfl,zU⟩;have m1:=b1.keep zU;have m2:=b2.keep zU;have m3:=b3.keep zU;have j1:=m1.c0;have j2:=m1.c1;have j3:=m2.c0;have j4:=m2.c1;have k1:=m1.f0;have k2:=m1.f1;have k3:=m2.f0;have k4:=m2.f1;have Bm:=f_ hB zU)
  have n1:=m1;have n2:=m2;have n3:=m3;have Bn:=Bm;clear i1 i2 i3 i4 j1 j2 j3 j4 k1 k2 k3 k4 m1 m2 m3 b1 b2 b3 zU;have e1:=n1.c0;have e2:=n1.c1;have e3:=n2.c0;have e4:=n2.c1
  go_region_held3 (fun W=>W.cell? ⟨w.heap.size,0,none⟩=some (.bool false)∧W.cell? ⟨w.heap.size,1,none⟩=some (.slice aa l1 o_)∧W.cell? ⟨w.heap.size+1,0,none⟩=some (.bool true)∧W.cell? ⟨w.heap.size+1,1,none⟩=some (.slice ab l2 s_)) (first | (refine ⟨?_,?_,?_,?_⟩ <;> (first | (with_reducible exact aE (by assumption) (by assumption)) | (with_reducible exact Gr.bB (by assumption)) | (with_reducible refine Gr.bR (by assumption) ?_;(intro yW;(try simp only [yJ,aO,World.heap_drewN,aI] at yW);omega)) | (with_reducible refine Gr.dH (by assumption) ?_ ?_ <;> (intro yW;(try simp only [yJ,aO,World.heap_drewN,aI] at yW);omega)) | exact aE (by assumption) (by assumption) | (with_reducible exact ay (by assumption) (by assumption) (by assumption)))) | (go_split_ands;(refine ⟨?_,?_,?_,?_⟩ <;> (first | (with_reducible exact aE (by assumption) (by assumption)) | (with_reducible exact Gr.bB (by assumption)) | (with_reducible refine Gr.bR (by assumption) ?_;(intro yW;(try simp only [yJ,aO,World.heap_drewN,aI] at yW);omega)) | (with_reducible refine Gr.dH (by assumption) ?_ ?_ <;> (intro yW;(try simp only [yJ,aO,World.heap_drewN,aI] at yW);omega)) | exact aE (by assumption) (by assumption) | (with_reducible exact ay (by assumption) (by assumption) (by assumption))))) | go_keep) ((first
   | (go_at_call 126;(with_reducible refine (PA.out _ (Al.out _ Bn.drew) (BE.out _ Bn.drew)).mono ?_);rintro e w4 ⟨v4,rfl,yh,hb4⟩;have B4:=Bn.drew.trans (hb4.mono Bn.size);have r4:=n3.drew.keep hb4;have AM:=aE hb4 (aY e1);have Aj:=aE hb4 (aY e2);have A9:=aE hb4 (aY e3);have BJ:=aE hb4 (aY e4);(have z4:wm.heap.size≤w4.heap.size:=hb4.size))
   | (go_at_call 125;(with_reducible refine (PT.out _ _ _ yh).mono ?_);rintro e w5 ⟨vc,rfl,hoc,hbc⟩;obtain ⟨ac,yS,rfl,hmc,yw⟩:=aF.view hoc;have B5:=f_ B4 hbc;have r5:=r4.keep hbc;have c0:=r5.c0;have c1:=r5.c1;have g0:=r5.f0;have g1:=r5.f1;have Cm:=aE hbc AM;have DE:=aE hbc Aj;have D_:=aE hbc A9;have EK:=aE hbc BJ;clear yw hmc)
   | fail "ARMS"))
  all_goals
   have hr:=cJ (w:=w) (w.heap.size+1+1) _ (.bool s) (by omega) (Nat.lt_of_lt_of_le n3.size z4) hoc B5;generalize (Wh.d_ z.natAbs).length=zV at *;go_wp2;exact bodyPost_ret (v:=.agg #[.bool s,.slice ac zV yS]) (by simp [results,Tryz.results114,go_sem, *]) rfl (⟨_,rfl,hr.1,hr.2⟩)
 skip
 have hd:=Wh.dl (a:=a) (b:=b) hs1 hs2;have hd':=Wh.dl (a:=b) (b:=a) hs2 hs1;rw [Int.add_comm b a] at hd'
 have PM:=fun W h1 h2=>dQ a.natAbs b.natAbs true false (.slice aa (Wh.d_ a.natAbs).length o_) (.slice ab (Wh.d_ b.natAbs).length s_) W ba bb h1 h2 (by omega) (by omega)
 rw [hs1,hs2];clear hs1 hs2
 by_cases hlt:a.natAbs<b.natAbs
 ·skip
  have PT:=yI (EA false _ hd');have PA:=yI (PA' (-1) (Or.inr rfl) (by omega));rw [Wh.gA (by omega)] at PM;have PM:=yI PM;clear hlt hd hd';generalize (b.natAbs:Int)+-1*(a.natAbs:Int)=y at *;generalize Wh.d_ b.natAbs=ys,Wh.d_ a.natAbs=xs,a+b=z at *;generalize decide (z<0)=s,ys.length=l2,xs.length=l1 at *;have b1:=((ai.new w (.bool true) (.slice aa l1 o_) 136).alloc (.cells #[.bool false,.slice ab l2 s_] 136)).alloc (.cells #[.bool false,.slice none 0 0] 136);have b2:=(ai.new2 w (.cells #[.bool true,.slice aa l1 o_] 136) (.bool false) (.slice ab l2 s_) 136).alloc (.cells #[.bool false,.slice none 0 0] 136);have b3:=ai.new2 (w.alloc (.cells #[.bool true,.slice aa l1 o_] 136)) (.cells #[.bool false,.slice ab l2 s_] 136) (.bool false) (.slice none 0 0) 136;rw [yJ] at b3;have hB:=(((yL w.heap.size w).alloc (yM _) (.cells #[.bool true,.slice aa l1 o_] 136)).alloc (by rw [yJ];omega) (.cells #[.bool false,.slice ab l2 s_] 136)).alloc (by rw [yJ,yJ];omega) (.cells #[.bool false,.slice none 0 0] 136);generalize hw3:((w.alloc (.cells #[.bool true,.slice aa l1 o_] 136)).alloc (.cells #[.bool false,.slice ab l2 s_] 136)).alloc (.cells #[.bool false,.slice none 0 0] 136)=w3 at *;have i1:=b1.c0;have i2:=b1.c1;have i3:=b2.c0;have i4:=b2.c1;go_enter Tryz.func114,Tryz.ntmps114
  go_wp2_with (go_at_call 127;(with_reducible refine (PM.out _ (Al.out _ hB) (BE.out _ hB)).mono ?_);rintro e wm ⟨rfl,zU⟩;have m1:=b1.keep zU;have m2:=b2.keep zU;have m3:=b3.keep zU;have j1:=m1.c0;have j2:=m1.c1;have j3:=m2.c0;have j4:=m2.c1;have k1:=m1.f0;have k2:=m1.f1;have k3:=m2.f0;have k4:=m2.f1;have Bm:=f_ hB zU)
  have n1:=(m1.store (.bool false) (.slice ab l2 s_)).other (c:=w.heap.size+1) (by omega) (.bool true) (.slice aa l1 o_);have n2:=(m2.other (c:=w.heap.size) (by omega) (.bool false) (.slice ab l2 s_)).store (.bool true) (.slice aa l1 o_);have n3:=(m3.other (c:=w.heap.size) (by omega) (.bool false) (.slice ab l2 s_)).other (c:=w.heap.size+1) (by omega) (.bool true) (.slice aa l1 o_);have Bn:=(((Bm.setCell (p:=⟨w.heap.size,0,none⟩) (yM _) (.bool false)).setCell (p:=⟨w.heap.size,1,none⟩) (yM _) (.slice ab l2 s_)).setCell (p:=⟨w.heap.size+1,0,none⟩) (Nat.le_succ _) (.bool true)).setCell (p:=⟨w.heap.size+1,1,none⟩) (Nat.le_succ _) (.slice aa l1 o_);generalize hwn:((((wm.setCell ⟨w.heap.size,0,none⟩ (.bool false)).setCell ⟨w.heap.size,1,none⟩ (.slice ab l2 s_)).setCell ⟨w.heap.size+1,0,none⟩ (.bool true)).setCell ⟨w.heap.size+1,1,none⟩ (.slice aa l1 o_))=wn at *;clear i1 i2 i3 i4 j1 j2 j3 j4 k1 k2 k3 k4 m1 m2 m3 b1 b2 b3 zU;have e1:=n1.c0;have e2:=n1.c1;have e3:=n2.c0;have e4:=n2.c1
  go_region_held3 (fun W=>W.cell? ⟨w.heap.size,0,none⟩=some (.bool false)∧W.cell? ⟨w.heap.size,1,none⟩=some (.slice ab l2 s_)∧W.cell? ⟨w.heap.size+1,0,none⟩=some (.bool true)∧W.cell? ⟨w.heap.size+1,1,none⟩=some (.slice aa l1 o_)) (first | (refine ⟨?_,?_,?_,?_⟩ <;> (first | (with_reducible exact aE (by assumption) (by assumption)) | (with_reducible exact Gr.bB (by assumption)) | (with_reducible refine Gr.bR (by assumption) ?_;(intro yW;(try simp only [yJ,aO,World.heap_drewN,aI] at yW);omega)) | (with_reducible refine Gr.dH (by assumption) ?_ ?_ <;> (intro yW;(try simp only [yJ,aO,World.heap_drewN,aI] at yW);omega)) | exact aE (by assumption) (by assumption) | (with_reducible exact ay (by assumption) (by assumption) (by assumption)))) | (go_split_ands;(refine ⟨?_,?_,?_,?_⟩ <;> (first | (with_reducible exact aE (by assumption) (by assumption)) | (with_reducible exact Gr.bB (by assumption)) | (with_reducible refine Gr.bR (by assumption) ?_;(intro yW;(try simp only [yJ,aO,World.heap_drewN,aI] at yW);omega)) | (with_reducible refine Gr.dH (by assumption) ?_ ?_ <;> (intro yW;(try simp only [yJ,aO,World.heap_drewN,aI] at yW);omega)) | exact aE (by assumption) (by assumption) | (with_reducible exact ay (by assumption) (by assumption) (by assumption))))) | go_keep) ((first
   | (go_at_call 126;(with_reducible refine (PA.out _ (BE.out _ Bn.drew) (Al.out _ Bn.drew)).mono ?_);rintro e w4 ⟨v4,rfl,yh,hb4⟩;have B4:=Bn.drew.trans (hb4.mono Bn.size);have r4:=n3.drew.keep hb4;have AM:=aE hb4 (aY e1);have Aj:=aE hb4 (aY e2);have A9:=aE hb4 (aY e3);have BJ:=aE hb4 (aY e4);(have z4:wn.heap.size≤w4.heap.size:=hb4.size))
   | (go_at_call 125;(with_reducible refine (PT.out _ _ _ yh).mono ?_);rintro e w5 ⟨vc,rfl,hoc,hbc⟩;obtain ⟨ac,yS,rfl,hmc,yw⟩:=aF.view hoc;have B5:=f_ B4 hbc;have r5:=r4.keep hbc;have c0:=r5.c0;have c1:=r5.c1;have g0:=r5.f0;have g1:=r5.f1;have Cm:=aE hbc AM;have DE:=aE hbc Aj;have D_:=aE hbc A9;have EK:=aE hbc BJ;clear yw hmc)
   | fail "ARMS"))
  all_goals
   have hr:=cJ (w:=w) (w.heap.size+1+1) _ (.bool s) (by omega) (Nat.lt_of_lt_of_le n3.size z4) hoc B5;generalize (Wh.d_ z.natAbs).length=zV at *;go_wp2;exact bodyPost_ret (v:=.agg #[.bool s,.slice ac zV yS]) (by simp [results,Tryz.results114,go_sem, *]) rfl (⟨_,rfl,hr.1,hr.2⟩)
 skip
 have PT:=yI (PT true _ hd);have PA:=yI (PA (-1) (Or.inr rfl) (by omega))
 have hr0:¬ Wh.zS (a.natAbs:Int) (b.natAbs:Int)<0:=by unfold Wh.zS;rw [if_neg (by omega)];split <;> omega
 generalize Wh.zS (a.natAbs:Int) (b.natAbs:Int)=rr at *;have PM:=yI PM;clear hlt hd hd';generalize (a.natAbs:Int)+-1*(b.natAbs:Int)=y at *;generalize Wh.d_ b.natAbs=ys,Wh.d_ a.natAbs=xs,a+b=z at *;generalize decide (z<0)=s,ys.length=l2,xs.length=l1 at *;have b1:=((ai.new w (.bool true) (.slice aa l1 o_) 136).alloc (.cells #[.bool false,.slice ab l2 s_] 136)).alloc (.cells #[.bool false,.slice none 0 0] 136);have b2:=(ai.new2 w (.cells #[.bool true,.slice aa l1 o_] 136) (.bool false) (.slice ab l2 s_) 136).alloc (.cells #[.bool false,.slice none 0 0] 136);have b3:=ai.new2 (w.alloc (.cells #[.bool true,.slice aa l1 o_] 136)) (.cells #[.bool false,.slice ab l2 s_] 136) (.bool false) (.slice none 0 0) 136;rw [yJ] at b3;have hB:=(((yL w.heap.size w).alloc (yM _) (.cells #[.bool true,.slice aa l1 o_] 136)).alloc (by rw [yJ];omega) (.cells #[.bool false,.slice ab l2 s_] 136)).alloc (by rw [yJ,yJ];omega) (.cells #[.bool false,.slice none 0 0] 136);generalize hw3:((w.alloc (.cells #[.bool true,.slice aa l1 o_] 136)).alloc (.cells #[.bool false,.slice ab l2 s_] 136)).alloc (.cells #[.bool false,.slice none 0 0] 136)=w3 at *;have i1:=b1.c0;have i2:=b1.c1;have i3:=b2.c0;have i4:=b2.c1;go_enter Tryz.func114,Tryz.ntmps114
 go_wp2_with (go_at_call 127;(with_reducible refine (PM.out _ (Al.out _ hB) (BE.out _ hB)).mono ?_);rintro e wm ⟨rfl,zU⟩;have m1:=b1.keep zU;have m2:=b2.keep zU;have m3:=b3.keep zU;have j1:=m1.c0;have j2:=m1.c1;have j3:=m2.c0;have j4:=m2.c1;have k1:=m1.f0;have k2:=m1.f1;have k3:=m2.f0;have k4:=m2.f1;have Bm:=f_ hB zU)
 have n1:=m1;have n2:=m2;have n3:=m3;have Bn:=Bm;clear i1 i2 i3 i4 j1 j2 j3 j4 k1 k2 k3 k4 m1 m2 m3 b1 b2 b3 zU;have e1:=n1.c0;have e2:=n1.c1;have e3:=n2.c0;have e4:=n2.c1
 go_region_held3 (fun W=>W.cell? ⟨w.heap.size,0,none⟩=some (.bool true)∧W.cell? ⟨w.heap.size,1,none⟩=some (.slice aa l1 o_)∧W.cell? ⟨w.heap.size+1,0,none⟩=some (.bool false)∧W.cell? ⟨w.heap.size+1,1,none⟩=some (.slice ab l2 s_)) (first | (refine ⟨?_,?_,?_,?_⟩ <;> (first | (with_reducible exact aE (by assumption) (by assumption)) | (with_reducible exact Gr.bB (by assumption)) | (with_reducible refine Gr.bR (by assumption) ?_;(intro yW;(try simp only [yJ,aO,World.heap_drewN,aI] at yW);omega)) | (with_reducible refine Gr.dH (by assumption) ?_ ?_ <;> (intro yW;(try simp only [yJ,aO,World.heap_drewN,aI] at yW);omega)) | exact aE (by assumption) (by assumption) | (with_reducible exact ay (by assumption) (by assumption) (by assumption)))) | (go_split_ands;(refine ⟨?_,?_,?_,?_⟩ <;> (first | (with_reducible exact aE (by assumption) (by assumption)) | (with_reducible exact Gr.bB (by assumption)) | (with_reducible refine Gr.bR (by assumption) ?_;(intro yW;(try simp only [yJ,aO,World.heap_drewN,aI] at yW);omega)) | (with_reducible refine Gr.dH (by assumption) ?_ ?_ <;> (intro yW;(try simp only [yJ,aO,World.heap_drewN,aI] at yW);omega)) | exact aE (by assumption) (by assumption) | (with_reducible exact ay (by assumption) (by assumption) (by assumption))))) | go_keep) ((first
  | (go_at_call 126;(with_reducible refine (PA.out _ (Al.out _ Bn.drew) (BE.out _ Bn.drew)).mono ?_);rintro e w4 ⟨v4,rfl,yh,hb4⟩;have B4:=Bn.drew.trans (hb4.mono Bn.size);have r4:=n3.drew.keep hb4;have AM:=aE hb4 (aY e1);have Aj:=aE hb4 (aY e2);have A9:=aE hb4 (aY e3);have BJ:=aE hb4 (aY e4);(have z4:wm.heap.size≤w4.heap.size:=hb4.size))
  | (go_at_call 125;(with_reducible refine (PT.out _ _ _ yh).mono ?_);rintro e w5 ⟨vc,rfl,hoc,hbc⟩;obtain ⟨ac,yS,rfl,hmc,yw⟩:=aF.view hoc;have B5:=f_ B4 hbc;have r5:=r4.keep hbc;have c0:=r5.c0;have c1:=r5.c1;have g0:=r5.f0;have g1:=r5.f1;have Cm:=aE hbc AM;have DE:=aE hbc Aj;have D_:=aE hbc A9;have EK:=aE hbc BJ;clear yw hmc)
  | fail "ARMS"))
 all_goals
  have hr:=cJ (w:=w) (w.heap.size+1+1) _ (.bool s) (by omega) (Nat.lt_of_lt_of_le n3.size z4) hoc B5;generalize (Wh.d_ z.natAbs).length=zV at *;go_wp2;exact bodyPost_ret (v:=.agg #[.bool s,.slice ac zV yS]) (by simp [results,Tryz.results114,go_sem, *]) rfl (⟨_,rfl,hr.1,hr.2⟩)
namespace Wh
theorem qS (a b:Int):zo (decide (a<0) != decide (b<0)) ((a.natAbs:Int)*(b.natAbs:Int))=a*b:=by
 rcases Int.natAbs_eq a with ha | ha <;> rcases Int.natAbs_eq b with hb | hb
 all_goals
  generalize b.natAbs=n,a.natAbs=m at *;subst ha hb
 ·rw [decide_eq_false (by omega),decide_eq_false (by omega)];rfl
 ·by_cases h:n=0
  ·subst h;simp [zo]
  rw [decide_eq_false (by omega),decide_eq_true (by omega)]
  show -((m:Int)*(n:Int))=(m:Int)*-(n:Int)
  rw [Int.mul_neg]
 ·by_cases h:m=0
  ·subst h;simp [zo]
  rw [decide_eq_true (by omega),decide_eq_false (by omega)]
  show -((m:Int)*(n:Int))=-(m:Int)*(n:Int)
  rw [Int.neg_mul]
 by_cases h:m=0
 ·subst h;simp [zo]
 by_cases h':n=0
 ·subst h';simp [zo]
 rw [decide_eq_true (by omega),decide_eq_true (by omega)]
 show (m:Int)*(n:Int)=-(m:Int)*-(n:Int)
 rw [Int.neg_mul_neg]
theorem xM (n:Nat):bO (List.replicate n 0):=fun x hx=>by rw [(List.mem_replicate.1 hx).2];exact ⟨Int.le_refl _,by decide⟩
theorem ue:∀ n:Nat,val (List.replicate n 0)=0
 | 0=>rfl
 | n+1=>by
  rw [List.replicate_succ]
  show 0+10000*val (List.replicate n 0)=0
  rw [ue n];rfl
theorem MInv.wu {o0 o:List Int} {x:Int} {b:List Int} {i k:Nat} {c:Int} (h:MInv o0 o x b i k c):o[k]?=o0[k]?:=by
 have:=congrArg (fun l:List Int=>l[0]?) h.rest
 simpa [List.getElem?_drop] using this
end Wh
theorem co (a b:Int) (va vb:Value) (w:World) (ba bb:Nat) (hoa:ah w ba va a) (zR:ah w bb vb b) (hl1:(Wh.d_ a.natAbs).length≤10000) (hl2:(Wh.d_ b.natAbs).length≤10000) :
  Calls Tryz.prog 112 #[.agg #[.bool (decide (a<0)),va],.agg #[.bool (decide (b<0)),vb]] w fun e w'=>∃ sl,e=.returned (.agg #[.bool (decide (a*b<0)),sl])∧ah w' w.heap.size sl (a*b)∧Below w.heap.size w w':=by
 obtain ⟨aa,o_,rfl,hma,hva⟩:=aF.seen hoa;obtain ⟨ab,s_,rfl,hmb,hvb⟩:=aF.seen zR;have hva:=yI hva;have hvb:=yI hvb;have hla:=yI (Wh.an a.natAbs);have hlb:=yI (Wh.an b.natAbs)
 have PT:=fun W v base ho=>fU (a*b) ((a.natAbs:Int)*(b.natAbs:Int)) ((Wh.d_ a.natAbs).length+(Wh.d_ b.natAbs).length+1) (decide (a<0) != decide (b<0)) v W base ho (by omega) (Wh.qS a b)
 have hpr:Hid (∀ (x y:List Int),x=Wh.d_ a.natAbs→y=Wh.d_ b.natAbs→Wh.val x*Wh.val y=(a.natAbs:Int)*(b.natAbs:Int)):=yI fun x y h1 h2=>by rw [h1,h2,Wh.bP,Wh.bP]
 have hpr:=yI (hpr.out _ _ rfl rfl);generalize decide (b<0)=s2,decide (a<0)=s1 at *;generalize (a.natAbs:Int)*(b.natAbs:Int)=y at *;generalize a*b=z at *;generalize Wh.d_ b.natAbs=ys,Wh.d_ a.natAbs=xs,decide (z<0)=s at *;clear hma hmb hoa zR;have b1:=((ai.new w (.bool s1) (.slice aa xs.length o_) 136).alloc (.cells #[.bool s2,.slice ab ys.length s_] 136)).alloc (.cells #[.bool false,.slice none 0 0] 136);have b2:=(ai.new2 w (.cells #[.bool s1,.slice aa xs.length o_] 136) (.bool s2) (.slice ab ys.length s_) 136).alloc (.cells #[.bool false,.slice none 0 0] 136);have b3:=ai.new2 (w.alloc (.cells #[.bool s1,.slice aa xs.length o_] 136)) (.cells #[.bool s2,.slice ab ys.length s_] 136) (.bool false) (.slice none 0 0) 136;rw [yJ] at b3;have hB:=(((yL w.heap.size w).alloc (yM _) (.cells #[.bool s1,.slice aa xs.length o_] 136)).alloc (by rw [yJ];omega) (.cells #[.bool s2,.slice ab ys.length s_] 136)).alloc (by rw [yJ,yJ];omega) (.cells #[.bool false,.slice none 0 0] 136);generalize hw3:((w.alloc (.cells #[.bool s1,.slice aa xs.length o_] 136)).alloc (.cells #[.bool s2,.slice ab ys.length s_] 136)).alloc (.cells #[.bool false,.slice none 0 0] 136)=w3 at *;obtain ⟨w4,hrun,hown1,hg1⟩:=lQ w3 (xs.length+ys.length+1) (by omega);rw [show ((xs.length+ys.length+1:Nat):Int)=(xs.length:Int)+(ys.length:Int)+1 by omega] at hrun;have hb4:Below w3.heap.size w3 w4:=cM hg1 (yM _) (fun k hk=>by cases hk);have hB3:=yI hB;have e2:=b1.c1;have e4:=b2.c1;have k2:=b1.keep hb4;have k4:=b2.keep hb4;have f2:=k2.c1;have f4:=k4.c1;clear hg1;go_enter Tryz.func112,Tryz.ntmps112
 go_wp2;have CY:=yI b1;have CZ:=yI b2;have FU:=yI b3;clear e2 e4 k2 k4 f2 f4 b1 b2 b3 hB
 go_loopw [6,7,8,9,10,23] (fun _ _ _ _ _ vi wr=>∃ (i:Nat) (o:List Int),i≤xs.length∧vi=.int .i64 i∧aF wr w3.heap.size (.slice (some ⟨w3.heap.size,0,none⟩) (xs.length+ys.length+1) (xs.length+ys.length+1)) o∧o.length=(xs.length+ys.length+1)∧Wh.bO o∧Wh.val o=Wh.val (xs.take i)*Wh.val ys∧Below w3.heap.size w3 wr) (fun _ _ _ _ _ vi _=>xs.length - (intOf vi).toNat)
 case atStart=>exact ⟨0,List.replicate (xs.length+ys.length+1) 0,Nat.zero_le _,rfl,hown1,List.length_replicate,Wh.xM _,by rw [Wh.ue];simp [Wh.val],hb4⟩
 case round=>
 clear hown1 hb4;obtain ⟨i,o,hi,rfl,hown,hlen,hls,GP,hbr⟩:=hrel;have hlen:=yI hlen;have hls:=yI hls;have GP:=yI GP;have c1:=CY.out.dS hbr CY.out.size;have c2:=CZ.out.dS hbr CZ.out.size;have c3:=FU.out.dS hbr FU.out.size;have hwr:Below w.heap.size w wr:=hB3.out.trans (hbr.mono hB3.out.size)
 by_cases hlt:i<xs.length
 ·obtain ⟨ga,x,ea,hga,hxa,hca⟩:=hva.out i hlt
  subst ea;have Cf:=aE hwr hca;have hlx:=yI (hla.out x (List.mem_of_getElem? hxa.out));have hrow:=yI (Wh.uB hxa.out GP.out);have MP:=yI (Wh.qY (n:=(xs.length+ys.length+1)) (Wh.fE hla.out (i+1)) hlb.out (by rw [List.length_take];omega));have d2:=c1.c1;have d4:=c2.c1;clear hca c1 c2 c3 hwr;go_wp2
  go_loopw [8,9,10] (fun vc vk _ wq=>∃ (d:Nat) (p:List Int) (c:Int),i+d≤(xs.length+ys.length+1)∧vk=.int .i64 ((i+d:Nat):Int)∧vc=.int .i64 c∧aF wq w3.heap.size (.slice (some ⟨w3.heap.size,0,none⟩) (xs.length+ys.length+1) (xs.length+ys.length+1)) p∧Wh.MInv o p x ys i (i+d) c∧Below w3.heap.size w3 wq) (fun _ vk _ _=>(xs.length+ys.length+1) - (intOf vk).toNat)
  case atStart=>exact ⟨0,o,0,by omega,rfl,rfl,hown,Wh.MInv.start hls.out x ys i,hbr⟩
  case round=>
  clear hown hbr Cf d2 d4;obtain ⟨d,p,c,hd,rfl,rfl,hown,Aa,hbq⟩:=hrel;have c1:=CY.out.dS hbq CY.out.size;have c2:=CZ.out.dS hbq CZ.out.size;have hwq:Below w.heap.size w wr:=hB3.out.trans (hbq.mono hB3.out.size)
  by_cases hk:i+d<(xs.length+ys.length+1)
  ·obtain ⟨t,ht⟩:∃ t,o[i+d]?=some t:=⟨_,List.getElem?_eq_getElem (by rw [hlen.out];exact hk)⟩
   have hpl:=Aa.len.trans hlen.out;have hpk:=Aa.wu.trans ht;have hc0:=aF.cellAt hpl.symm hown hpk;have hf0:wr.frozen? ⟨w3.heap.size,i+d,none⟩=false:=fM hpl hown (i+d)
   have hst:=yI fun y=>aF.set (j:=i+d) hpl.symm hown y rfl
   have hstep:=fun y hy=>Aa.step (y:=y) hls.out hlx.out hlb.out (Nat.le_add_right _ _) ht hy
   rw [Nat.add_sub_cancel_left] at hstep;have hstep:=yI hstep;have htl:=hls.out t (List.mem_of_getElem? ht);unfold Wh.lim at htl;have hcr:=Aa.c0;have zI:=yI hbq;have d4:=c2.c1;have JK:w3.heap.size<wr.heap.size:=World.block_lt_of_cell? wr _ hc0;clear Aa hpl hpk ht hown c1 c2
   by_cases hdl:d<ys.length
   ·obtain ⟨gb,yb,eb,hgb,hxb,hcb⟩:=hvb.out d hdl
    subst eb;have hcb:=aE hwq hcb;have hny:=Wh.cw hxb.out;have hm:=Wh.mO hlx.out (hlb.out yb (List.mem_of_getElem? hxb.out));rw [hny] at hstep;have hny:x*yb=x*yb:=rfl;generalize hpb:x*yb=pb at *;clear hny;have hny:pb=pb:=rfl;have hS:=hstep.out (t+c+pb) rfl;have hy0:=hS.1;have t1:Int.tmod (t+c+pb) 10000=(t+c+pb) % 10000:=Int.tmod_eq_emod_of_nonneg hy0.1;have t2:Int.tdiv (t+c+pb) 10000=(t+c+pb) / 10000:=Int.tdiv_eq_ediv_of_nonneg hy0.1
    have hrr:0≤(t+c+pb) % 10000∧(t+c+pb) % 10000<10000:=by omega
    have hqq:0≤(t+c+pb) / 10000∧(t+c+pb) / 10000≤9999:=by omega
    have hS2:=yI hS.2;have hO:=yI (hst.out ((t+c+pb) % 10000));clear hS hstep hst hny;generalize (t+c+pb) / 10000=qq,(t+c+pb) % 10000=r at *;go_wp2
    go_roundw
    case rel=>exact ⟨d+1,_,_,by omega,by go_num,by go_num,hO.out.1,hS2.out,zI.out.setCell (yM _) _⟩
    case measure=>simp [intOf];omega
   have hny:=Wh.cr (l:=ys) (i:=d) (by omega);rw [hny,Int.mul_zero] at hstep;have hS:=hstep.out (t+c) (by omega);have hy0:=hS.1;have t1:Int.tmod (t+c) 10000=(t+c) % 10000:=Int.tmod_eq_emod_of_nonneg hy0.1;have t2:Int.tdiv (t+c) 10000=(t+c) / 10000:=Int.tdiv_eq_ediv_of_nonneg hy0.1
   have hrr:0≤(t+c) % 10000∧(t+c) % 10000<10000:=by omega
   have hqq:0≤(t+c) / 10000∧(t+c) / 10000≤9999:=by omega
   have hS2:=yI hS.2;have hO:=yI (hst.out ((t+c) % 10000));clear hS hstep hst hny;generalize (t+c) / 10000=qq,(t+c) % 10000=r at *;go_wp2
   go_roundw
   case rel=>exact ⟨d+1,_,_,by omega,by go_num,by go_num,hO.out.1,hS2.out,zI.out.setCell (yM _) _⟩
   case measure=>simp [intOf];omega
  have e:i+d=(xs.length+ys.length+1):=by omega
  rw [e] at Aa;have hf:=yI (Aa.fin hlen.out (by omega) hrow.out MP.out hls.out);have hpl:=yI (Aa.len.trans hlen.out);have hll:=yI (Aa.bO hls.out);have hown:=yI hown;clear Aa c1 c2;go_wp2
  go_roundw
  case rel=>exact ⟨i+1,p,by omega,by go_num,hown.out,hpl.out,hll.out,hf.out,hbq⟩
  case measure=>simp [intOf];omega
 obtain rfl:i=xs.length:=by omega
 rw [List.take_length] at GP;have hov:Hid (jg wr w3.heap.size (.slice (some ⟨w3.heap.size,0,none⟩) (xs.length+ys.length+1) (xs.length+ys.length+1)) y (xs.length+ys.length+1)):=yI ⟨o,hown,hls.out,by rw [GP.out,hpr.out],by rw [hlen.out];exact yM _⟩;have d1:=c1.c0;have d2:=c2.c0;clear hown;rw [show (s1 != s2)=!(s1 == s2) from rfl] at PT;have PT:=yI PT
 go_wp2_with (go_at_call 125;(with_reducible refine (PT.out _ _ _ hov.out).mono ?_);rintro e w5 ⟨vc,rfl,hoc,hbc⟩;obtain ⟨ac,yS,rfl,hmc,yw⟩:=aF.view hoc;have r5:=c3.keep hbc;have p0:=r5.c0;have p1:=r5.c1;have g0:=r5.f0;have g1:=r5.f1;clear yw hmc)
 have hr:=cJ (w:=w) (w.heap.size+1+1) _ (.bool s) (by omega) c3.size hoc (f_ hwr hbc);generalize (Wh.d_ z.natAbs).length=zV at *;exact bodyPost_ret (v:=.agg #[.bool s,.slice ac zV yS]) (by simp [results,Tryz.results112,go_sem, *]) rfl (⟨_,rfl,hr.1,hr.2⟩)
end
end Go.Proofs.YtgfkcoablfjbcaaGreat
