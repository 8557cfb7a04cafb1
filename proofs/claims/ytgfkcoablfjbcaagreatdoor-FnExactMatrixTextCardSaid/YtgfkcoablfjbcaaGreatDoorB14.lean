/-
  Joined texts: contracts and plain lemmas.
-/
import Derived.Test.YtgfkcoablfjbcaaGreatDoorB1
import Derived.Test.YtgfkcoablfjbcaaGreatDoorB13
import Derived.Test.YtgfkcoablfjbcaaGreatDoorB2
import Derived.Test.YtgfkcoablfjbcaaGreatDoorB3
import Derived.Deep.DeepCutAuto
import Derived.Deep.RegionWith
set_option linter.unusedSimpArgs false
set_option linter.unusedVariables false
set_option maxRecDepth 100000
set_option maxHeartbeats 8000000
namespace Go.Proofs.YtgfkcoablfjbcaaGreatDoor
section
open Go.RowKit
abbrev gL:=Bool × (Option Addr × Nat × Nat) × Bool × (Option Addr × Nat × Nat)
def gL.val (q:gL):Value:=.agg #[.bool q.1,.slice q.2.1.1 q.2.1.2.1 q.2.1.2.2,.bool q.2.2.1,.slice q.2.2.2.1 q.2.2.2.2.1 q.2.2.2.2.2]
def ER:Rw.Enc gL where
 t:=120
 k:=4
 cells:=fun q=>[.bool q.1,.slice q.2.1.1 q.2.1.2.1 q.2.1.2.2,.bool q.2.2.1,.slice q.2.2.2.1 q.2.2.2.2.1 q.2.2.2.2.2]
 len:=fun _=>rfl
 one:=fun x u hu=>by simp only [List.mem_cons,List.not_mem_nil,or_false] at hu;rcases hu with rfl | rfl | rfl | rfl <;> rfl
 pos:=by decide
theorem uU:(Tryz.prog.info? 120).map (fun i=>(i.zero,i.size,i.bytes))=some (some (.agg #[.bool false,.slice none 0 0,.bool false,.slice none 0 0]),4,64):=by kernel_rfl
theorem uQ:Rw.Fits Tryz.prog ER 114:=⟨Tryz.underlying114,by
 obtain ⟨i0,hi,hz0,hz1,hz2⟩:=info_parts uU
 exact ⟨i0,_,hi,hz0,hz1,by omega,rfl⟩⟩
theorem aF.nP {W W':World} {b1 b2:Nat} {v sl:Value} {xs:List gL} {ys:List Int} (h:aF W b1 sl ys) (hv:Rw.Own ER W b2 v xs) (hg:W.grownBy W' v.ownBlock):aF W' b1 sl ys:=by
 refine World.ownsRow.kept h hg ?_
 cases hs:sl.ownBlock with
 | none=>exact Or.inl rfl
 | some k=>exact Or.inr fun e=>jm h hv (by decide) k e.symm hs
theorem aH.grown {W W':World} {g:Nat} {T:TypeId} {xs:Array Value} {r:Option Nat} (h:aH W g T xs) (hg:W.grownBy W' r) (hr:r≠some g):aH W' g T xs:=(hg.block g h.lt (fun e=>hr e.symm)).trans h
def tK (W:World) (n:Nat) (o:M.Out) (v:Value) (en:Bool):Prop:=match o with
 | .inf=>en=true∧∃ A l c,v=.slice A l c
 | .bad=>en=false∧∃ A l c,v=.slice A l c∧l≤n
 | .val x z=>en=false∧Wh.sz x 1000∧Wh.sz z 1000∧∃ (g cap:Nat) (s:Bool) (av:Option Addr) (lv cv:Nat) (r:Bool) (bv:Option Addr) (mv dv:Nat),v=.slice (some ⟨g,0,none⟩) (n+1) cap∧
   W.cell? ⟨g,n*4,none⟩=some (.bool s)∧W.cell? ⟨g,n*4+1,none⟩=some (.slice av lv cv)∧W.cell? ⟨g,n*4+2,none⟩=some (.bool r)∧W.cell? ⟨g,n*4+3,none⟩=some (.slice bv mv dv)∧
   Hid (s=decide (x<0))∧Hid (r=decide (z<0))∧aF W 0 (.slice av lv cv) (Wh.dig x.natAbs)∧aF W 0 (.slice bv mv dv) (Wh.dig z.natAbs)
theorem mX (a b X Y E:Int) (n:Nat) (w:World) (hg:M.good a b=true) (hX1:-10000≤X) (hX2:X≤10000) (hE1:0≤E) (hE2:E≤20) (hn:n≤5) :
  Calls Tryz.prog 85 #[.agg #[.int .i64 a,.int .i64 b],.agg #[.int .i64 X,.int .i64 Y,.int .i64 E],.int .i64 (n:Int)] w fun e w'=>∃ v,∃ en:Bool,e=.returned (.tuple #[v,.bool en])∧tK w' n (M.aj a b X E n) v en∧Below w.heap.size w w':=by
 have C:=(aH.new w #[.int .i64 a,.int .i64 b] 28).alloc (.cells #[.int .i64 X,.int .i64 Y,.int .i64 E] 45)
 have Q:=(aH.new (w.alloc (.cells #[.int .i64 a,.int .i64 b] 28)) #[.int .i64 X,.int .i64 Y,.int .i64 E] 45)
 rw [ui] at Q
 have B:=((uk w.heap.size w).alloc (ul _) (.cells #[.int .i64 a,.int .i64 b] 28)).alloc (by rw [ui];omega) (.cells #[.int .i64 X,.int .i64 Y,.int .i64 E] 45)
 have hzw:w.heap.size+2≤((w.alloc (.cells #[.int .i64 a,.int .i64 b] 28)).alloc (.cells #[.int .i64 X,.int .i64 Y,.int .i64 E] 45)).heap.size:=by rw [ui,ui];omega
 generalize hw3:(w.alloc (.cells #[.int .i64 a,.int .i64 b] 28)).alloc (.cells #[.int .i64 X,.int .i64 Y,.int .i64 E] 45)=wc at *
 have ⟨q0,q1,q2⟩:=Q.aQ
 have C_c0:=C.box.c0
 have C_c1:=C.box.c1
 by_cases h0:E=0
 ·subst h0
  have hz0:=uh (show M.aj a b X 0 n=.inf from rfl)
  go_enter Tryz.func85,Tryz.ntmps85
  go_wp2
  exact bodyPost_ret (v:=.tuple #[.slice none 0 0,.bool true]) (by simp [results,Tryz.results85,go_sem, *]) rfl (⟨_,_,rfl,(by rw [hz0.out];exact ⟨rfl,_,_,_,rfl⟩),B⟩)
 have hE:1≤E:=by omega
 have hEE:1≤E*E∧E*E≤400:=⟨by have:=Int.mul_le_mul hE hE (by omega) (by omega);omega,by have:=Int.mul_le_mul hE2 hE2 (by omega) (by omega);omega⟩
 have hE0:(E == 0)=false:=by rw [beq_eq_false_iff_ne];exact h0
 have hout:=uh (show M.aj a b X E n=M.run a b n (.val X (E*E)) from if_neg h0)
 clear h0
 obtain ⟨e1,e2⟩:=hEE
 have P1:=fun W=>tz X (E*E) W (by omega) (by omega) (by omega) (by omega)
 have zX:Wh.sz X 1000:=Wh.aN (Wh.bS (by omega) (by omega)) (by omega)
 have zE:Wh.sz (E*E) 1000:=Wh.aN (Wh.bS (by omega) (by omega)) (by omega)
 have zX:=uh zX
 have zE:=uh zE
 have hb2:-10000≤b∧b≤10000:=⟨(M.ah (M.bE hg)).2.2.1,(M.ah (M.bE hg)).2.2.2⟩
 have ha2:-1000≤a∧a≤1000:=⟨(M.ah (M.bE hg)).1,(M.ah (M.bE hg)).2.1⟩
 obtain ⟨hb1,hb2⟩:=hb2
 obtain ⟨ha1,ha2⟩:=ha2
 have hg:=uh hg
 have PG:=uh fun (x z:Int) (s r:Bool) v v' W k k' (h1:aF W k v (Wh.dig x.natAbs)) (h2:aF W k' v' (Wh.dig z.natAbs)) (hx:Wh.sz x 1000) (hz:Wh.sz z 1000) (hs:s=decide (x<0)) (hr:r=decide (z<0))=>(hs ▸ hr ▸ jP a b x z v v' W k k' h1 h2 hx hz ha1 ha2 hb1 hb2:Calls Tryz.prog 106 #[.agg #[.int .i64 a,.int .i64 b],.agg #[.bool s,v,.bool r,v']] W fun e w'=>∃ sl,e=.returned (.agg #[.bool (decide (Wh.bD a b x z<0)),sl])∧ae w' W.heap.size sl (Wh.bD a b x z)∧Below W.heap.size W w')
 have PD:=uh fun (x z:Int) (s r:Bool) v v' W k k' (h1:aF W k v (Wh.dig x.natAbs)) (h2:aF W k' v' (Wh.dig z.natAbs)) (hx:Wh.sz x 1000) (hz:Wh.sz z 1000) (hs:s=decide (x<0)) (hr:r=decide (z<0))=>(hs ▸ hr ▸ nI a b x z v v' W k k' hg.out h1 h2 hx hz:Calls Tryz.prog 107 #[.agg #[.int .i64 a,.int .i64 b],.agg #[.bool s,v,.bool r,v']] W fun e w'=>∃ v1 v2,e=.returned (.tuple #[.agg #[.bool (decide (Wh.dbX (M.ay a b) (Wh.bJ a b x z) (Wh.bD a b x z)<0)),v1,.bool (decide (Wh.dbZ (M.ay a b) (Wh.bJ a b x z) (Wh.bD a b x z)<0)),v2],.bool (Wh.dX (M.ay a b) (Wh.bJ a b x z) (Wh.bD a b x z))])∧ae w' W.heap.size v1 (Wh.dbX (M.ay a b) (Wh.bJ a b x z) (Wh.bD a b x z))∧ae w' W.heap.size v2 (Wh.dbZ (M.ay a b) (Wh.bJ a b x z) (Wh.bD a b x z))∧Below W.heap.size W w')
 clear ha1 ha2 hb1 hb2
 have hfld:=fun q A L C W=>gv q A L C W
 have hini:=uh (show M.run a b 0 (.val X (E*E))=.val X (E*E) from rfl)
 generalize hZ:E*E=Z at *
 replace hZ:=uh hZ
 generalize hs1:decide (X<0)=s1 at *
 generalize hs2:decide (Z<0)=s2 at *
 replace hs1:=uh hs1.symm
 replace hs2:=uh hs2.symm
 have P1:=uh P1
 have hQ:=uh Q
 have hZE:=hZ.out
 go_enter Tryz.func85,Tryz.ntmps85
 go_wp2_with (go_at_call 105;(with_reducible refine (P1.out _).mono ?_);rintro e w4 ⟨v4,u4,rfl,ho4,hp4,hb4⟩;obtain ⟨a4,c4,rfl,hm_,hv_⟩:=aF.view ho4;(clear hm_ hv_);obtain ⟨b4,d4,rfl,hm_,hv_⟩:=aF.view hp4;(clear hm_ hv_);(generalize (Wh.dig X.natAbs).length=l4 at *);(generalize (Wh.dig Z.natAbs).length=m4 at *);(replace C:=C.keep hb4);(replace B:=B.trans (hb4.mono B.size));(replace ⟨C_c0,C_c1⟩:=C.b2))
 have hz4:w.heap.size+2≤w4.heap.size:=Nat.le_trans hzw hb4.size
 have L:=Rw.Own.lit1 ER ((s1,(a4,l4,c4),s2,(b4,m4,d4)):gL) w4 (w.heap.size+2) hz4
 have ox:=aF.base (aF.alloc (show aF _ _ _ _ from ho4) (.cells #[.bool s1,.slice a4 l4 c4,.bool s2,.slice b4 m4 d4] 120)) (Nat.zero_le _)
 have oz:=aF.base (aF.alloc (show aF _ _ _ _ from hp4) (.cells #[.bool s1,.slice a4 l4 c4,.bool s2,.slice b4 m4 d4] 120)) (Nat.zero_le _)
 have C2:=C.alloc (.cells #[.bool s1,.slice a4 l4 c4,.bool s2,.slice b4 m4 d4] 120)
 have B2:=B.alloc B.size (.cells #[.bool s1,.slice a4 l4 c4,.bool s2,.slice b4 m4 d4] 120)
 have L:=uh L
 have ox:=uh ox
 have oz:=uh oz
 clear ho4 hp4 C B C_c0 C_c1 q0 q1 q2 Q hQ hb4 P1 hzw hZE
 go_loopw [2,8] (fun vi vl wr=>∃ (k:Nat) (x z:Int) (xs:List gL) (q:gL),k≤n∧vi=.int .i64 ((n - k:Nat):Int)∧Hid (M.run a b k (.val X Z)=.val x z)∧Rw.Own ER wr (w.heap.size+2) vl xs∧Hid (xs.length=k+1)∧Hid (xs[k]?=some q)∧aF wr 0 (.slice q.2.1.1 q.2.1.2.1 q.2.1.2.2) (Wh.dig x.natAbs)∧aF wr 0 (.slice q.2.2.2.1 q.2.2.2.2.1 q.2.2.2.2.2) (Wh.dig z.natAbs)∧Hid (q.1=decide (x<0))∧Hid (q.2.2.1=decide (z<0))∧Wh.sz x 1000∧Wh.sz z 1000∧aH wr w.heap.size 28 #[.int .i64 a,.int .i64 b]∧Below w.heap.size w wr∧w.heap.size+2≤wr.heap.size) (fun vi _ _=>(intOf vi).toNat)
 case atStart=>exact ⟨0,X,Z,[((s1,(a4,l4,c4),s2,(b4,m4,d4)):gL)],((s1,(a4,l4,c4),s2,(b4,m4,d4)):gL),Nat.zero_le _,rfl,hini,L.out,uh rfl,uh rfl,ox.out,oz.out,hs1,hs2,zX.out,zE.out,C2,B2,by rw [ui];omega⟩
 case round=>
 clear L ox oz C2 B2 hini hs1 hs2 zX zE hz4
 obtain ⟨k,x,z,xs,q,hk,rfl,hrun,L,hlen,hq,ox,oz,hs,hr,zx,zz,C,B,hz⟩:=hrel
 obtain ⟨s,⟨av,lv,cv⟩,r,⟨bv,mv,dv⟩⟩:=q
 dsimp only at ox oz hs hr
 rcases L.forms with ⟨rfl,rfl⟩ | ⟨g,cap,rfl,hg1,hg2,hcp1,hcp2⟩
 ·exact absurd hlen.out (by simp)
 have hcl:=fun i u (hu:(ER.cells (s,(av,lv,cv),r,(bv,mv,dv)))[i]?=some u) (hi:i<4)=>Rw.Own.cellAt rfl L (k*4+i) u ((Rw.flat_get ER xs k i _ hq.out hi).trans hu)
 have h_c0:wr.cell? ⟨g,k*4,none⟩=some (.bool s):=(hcl 0 _ rfl (by omega)).1
 have h_c1:wr.cell? ⟨g,k*4+1,none⟩=some (.slice av lv cv):=(hcl 1 _ rfl (by omega)).1
 have h_c2:wr.cell? ⟨g,k*4+2,none⟩=some (.bool r):=(hcl 2 _ rfl (by omega)).1
 have h_c3:wr.cell? ⟨g,k*4+3,none⟩=some (.slice bv mv dv):=(hcl 3 _ rfl (by omega)).1
 clear hcl
 have hlen1:=hlen.out
 rw [hlen1] at hcp1 L ⊢
 have ox:=uh ox
 have oz:=uh oz
 have zx:=uh zx
 have zz:=uh zz
 have L:=uh L
 have C_c0:=C.box.c0
 have C_c1:=C.box.c1
 clear hlen1
 by_cases hlt:k<n
 ·obtain ⟨j,hj⟩:∃ j:Nat,n - k=j+1:=⟨n - k - 1,by omega⟩
  have hj2:=uh (show n - (k+1)=j by omega)
  have hjb:(j:Int)≤4:=by omega
  rw [hj]
  clear hj
  have PG1:=uh fun v v' W i j h1 h2=>PG.out x z s r v v' W i j h1 h2 zx.out zz.out hs.out hr.out
  have PD1:=uh fun v v' W i j h1 h2=>PD.out x z s r v v' W i j h1 h2 zx.out zz.out hs.out hr.out
  have hnx:M.run a b (k+1) (.val X Z)=M.nx a b (.val x z):=by show M.nx a b (M.run a b k (.val X Z))=_;rw [hrun.out]
  unfold M.nx at hnx
  dsimp only at hnx
  clear PG PD hs hr
  have hrok:=fun h=>Wh.jF (Wh.ic (D:=M.ay a b) (F:=Wh.bJ a b x z) (G:=Wh.bD a b x z) h)
  have hXN:Wh.dX (M.ay a b) (Wh.bJ a b x z) (Wh.bD a b x z)=true→Wh.dbX (M.ay a b) (Wh.bJ a b x z) (Wh.bD a b x z)=Wh.dbN (M.ay a b) (Wh.bJ a b x z) (Wh.bD a b x z)∧Wh.dbZ (M.ay a b) (Wh.bJ a b x z) (Wh.bD a b x z)=Wh.dbD (M.ay a b) (Wh.bJ a b x z) (Wh.bD a b x z):=fun h=>by unfold Wh.dbX Wh.dbZ;rw [if_pos h,if_pos h];exact ⟨rfl,rfl⟩
  generalize Wh.dbX (M.ay a b) (Wh.bJ a b x z) (Wh.bD a b x z)=x' at *
  generalize Wh.dbZ (M.ay a b) (Wh.bJ a b x z) (Wh.bD a b x z)=z' at *
  generalize Wh.dbN (M.ay a b) (Wh.bJ a b x z) (Wh.bD a b x z)=nn at *
  generalize Wh.dbD (M.ay a b) (Wh.bJ a b x z) (Wh.bD a b x z)=dd at *
  generalize Wh.dX (M.ay a b) (Wh.bJ a b x z) (Wh.bD a b x z)=ok at *
  have hG0:=@Wh.eG (Wh.bD a b x z)
  generalize Wh.bD a b x z=G at *
  generalize decide (G<0)=sg at *
  have N:=aH.new wr #[.bool s,.slice av lv cv,.bool r,.slice bv mv dv] 120
  have C3:=C.alloc (.cells #[.bool s,.slice av lv cv,.bool r,.slice bv mv dv] 120)
  have ox3:=uh (aF.alloc ox.out (.cells #[.bool s,.slice av lv cv,.bool r,.slice bv mv dv] 120))
  have oz3:=uh (aF.alloc oz.out (.cells #[.bool s,.slice av lv cv,.bool r,.slice bv mv dv] 120))
  have L3:=uh (Rw.Own.alloc L.out (.cells #[.bool s,.slice av lv cv,.bool r,.slice bv mv dv] 120))
  have B3:=B.alloc B.size (.cells #[.bool s,.slice av lv cv,.bool r,.slice bv mv dv] 120)
  have C3_c0:=C3.box.c0
  have C3_c1:=C3.box.c1
  have N_c0:=N.aR.c0
  have N_c1:=N.aR.c1
  have N_c2:=N.aR.c2
  have N_c3:=N.aR.c3
  by_cases hG:G=0
  ·rw [if_pos hG] at hnx
   have hfin:=uh (M.kT hnx n (by omega))
   have hl0:=hG0.2 hG
   clear hnx hG hG0 hrok hXN PD1
   generalize hlg:(Wh.dig G.natAbs).length=lg at *
   subst hl0
   replace hlg:=uh hlg
   go_wp2_with (go_at_call 106;(with_reducible refine (PG1.out _ _ _ _ _ ox3.out oz3.out).mono ?_);rintro e w4 ⟨v4,rfl,ho4,hb4⟩;obtain ⟨a4,c4,rfl,hm_,hv_⟩:=aF.view ho4;(clear hm_ hv_);(rw [hlg.out] at ho4 ⊢);(replace C3:=C3.keep hb4);(replace N:=N.keep hb4);(replace B3:=B3.trans (hb4.mono B3.size));(replace ⟨C3_c0,C3_c1⟩:=C3.b2);(replace ⟨N_c0,N_c1,N_c2,N_c3⟩:=N.b4))
   exact bodyPost_ret (v:=.tuple #[.slice (some ⟨g,0,none⟩) (k+1) cap,.bool true]) (by simp [results,Tryz.results85,go_sem, *]) rfl (⟨_,_,rfl,(by rw [hout.out,hfin.out];exact ⟨rfl,_,_,_,rfl⟩),B3⟩)
  rw [if_neg hG] at hnx
  have hl0:¬ (Wh.dig G.natAbs).length=0:=fun h=>hG (hG0.1 h)
  have hlq:(((Wh.dig G.natAbs).length:Int) == 0)=false:=by rw [beq_eq_false_iff_ne];omega
  clear hG hG0
  cases ok with
  | false=>
   have hfin:=uh (M.kS hnx n (by omega))
   clear hnx hrok hXN
   generalize decide (x'<0)=s' at *
   generalize decide (z'<0)=r' at *
   go_wp2_with (first
    | (go_at_call 106;(with_reducible refine (PG1.out _ _ _ _ _ ox3.out oz3.out).mono ?_);rintro e w4 ⟨v4,rfl,ho4,hb4⟩;obtain ⟨a4,c4,rfl,hm_,hv_⟩:=aF.view ho4;(clear hm_ hv_ ho4);(generalize (Wh.dig G.natAbs).length=lg at *);(replace L3:=uh (Rw.Own.below L3.out hb4));(replace C3:=C3.keep hb4);(replace N:=N.keep hb4);(replace ox3:=kO ox3 hb4);(replace oz3:=kO oz3 hb4);(replace B3:=B3.trans (hb4.mono B3.size));(replace ⟨C3_c0,C3_c1⟩:=C3.b2);(replace ⟨N_c0,N_c1,N_c2,N_c3⟩:=N.b4))
    | (go_at_call 107;(with_reducible refine (PD1.out _ _ _ _ _ ox3.out oz3.out).mono ?_);rintro e w5 ⟨v5,u5,rfl,ho5,hp5,hb5⟩;(replace C3:=C3.keep hb5);(replace N:=N.keep hb5);(replace ox3:=kO ox3 hb5);(replace oz3:=kO oz3 hb5);(replace B3:=B3.trans (hb5.mono B3.size));(replace L3:=uh (Rw.Own.below L3.out hb5));obtain ⟨a5,c5,rfl,hm_,hv_⟩:=aF.view ho5;(clear hm_ hv_);obtain ⟨b5,d5,rfl,hm_,hv_⟩:=aF.view hp5;(clear hm_ hv_);(have on:=uh (aF.alloc (show aF _ _ _ _ from ho5) (.cells #[.bool s',.slice a5 (Wh.dig x'.natAbs).length c5,.bool r',.slice b5 (Wh.dig z'.natAbs).length d5] 120)));(have om:=uh (aF.alloc (show aF _ _ _ _ from hp5) (.cells #[.bool s',.slice a5 (Wh.dig x'.natAbs).length c5,.bool r',.slice b5 (Wh.dig z'.natAbs).length d5] 120)));(clear ho5 hp5);(generalize (Wh.dig x'.natAbs).length=l5 at *);(generalize (Wh.dig z'.natAbs).length=m5 at *);(replace L3:=uh (Rw.Own.alloc L3.out (.cells #[.bool s',.slice a5 l5 c5,.bool r',.slice b5 m5 d5] 120)));(have M_:=aH.new w5 #[.bool s',.slice a5 l5 c5,.bool r',.slice b5 m5 d5] 120);(have b_:=bA w5 (.cells #[.bool s',.slice a5 l5 c5,.bool r',.slice b5 m5 d5] 120));(replace C3:=C3.keep b_);(replace N:=N.keep b_);(replace ox3:=kO ox3 b_);(replace oz3:=kO oz3 b_);(replace B3:=B3.trans (b_.mono B3.size));(clear b_);(replace ⟨C3_c0,C3_c1⟩:=C3.b2);(replace ⟨N_c0,N_c1,N_c2,N_c3⟩:=N.b4);(replace ⟨M__c0,M__c1,M__c2,M__c3⟩:=M_.b4)))
   exact bodyPost_ret (v:=.tuple #[.slice (some ⟨g,0,none⟩) (k+1) cap,.bool false]) (by simp [results,Tryz.results85,go_sem, *]) rfl (⟨_,_,rfl,(by rw [hout.out,hfin.out];exact ⟨rfl,_,_,_,rfl,by omega⟩),B3⟩)
  | true=>
  rw [if_pos rfl] at hnx
  obtain ⟨hxn,hzn⟩:=hXN rfl
  obtain ⟨zn,zd⟩:=hrok rfl
  subst hxn hzn
  clear hXN hrok
  have zn:=uh zn
  have zd:=uh zd
  have hnx:=uh hnx
  generalize hs5:decide (x'<0)=s' at *
  generalize hr5:decide (z'<0)=r' at *
  replace hs5:=uh hs5.symm
  replace hr5:=uh hr5.symm
  clear hrun zx zz
  go_wp2_with (first
   | (go_at_call 106;(with_reducible refine (PG1.out _ _ _ _ _ ox3.out oz3.out).mono ?_);rintro e w4 ⟨v4,rfl,ho4,hb4⟩;obtain ⟨a4,c4,rfl,hm_,hv_⟩:=aF.view ho4;(clear hm_ hv_ ho4);(generalize (Wh.dig G.natAbs).length=lg at *);(replace L3:=uh (Rw.Own.below L3.out hb4));(replace C3:=C3.keep hb4);(replace N:=N.keep hb4);(replace ox3:=kO ox3 hb4);(replace oz3:=kO oz3 hb4);(replace B3:=B3.trans (hb4.mono B3.size));(replace ⟨C3_c0,C3_c1⟩:=C3.b2);(replace ⟨N_c0,N_c1,N_c2,N_c3⟩:=N.b4))
   | (go_at_call 107;(with_reducible refine (PD1.out _ _ _ _ _ ox3.out oz3.out).mono ?_);rintro e w5 ⟨v5,u5,rfl,ho5,hp5,hb5⟩;(replace C3:=C3.keep hb5);(replace N:=N.keep hb5);(replace ox3:=kO ox3 hb5);(replace oz3:=kO oz3 hb5);(replace B3:=B3.trans (hb5.mono B3.size));(replace L3:=uh (Rw.Own.below L3.out hb5));obtain ⟨a5,c5,rfl,hm_,hv_⟩:=aF.view ho5;(clear hm_ hv_);obtain ⟨b5,d5,rfl,hm_,hv_⟩:=aF.view hp5;(clear hm_ hv_);(have on:=uh (aF.alloc (show aF _ _ _ _ from ho5) (.cells #[.bool s',.slice a5 (Wh.dig x'.natAbs).length c5,.bool r',.slice b5 (Wh.dig z'.natAbs).length d5] 120)));(have om:=uh (aF.alloc (show aF _ _ _ _ from hp5) (.cells #[.bool s',.slice a5 (Wh.dig x'.natAbs).length c5,.bool r',.slice b5 (Wh.dig z'.natAbs).length d5] 120)));(clear ho5 hp5);(generalize (Wh.dig x'.natAbs).length=l5 at *);(generalize (Wh.dig z'.natAbs).length=m5 at *);(replace L3:=uh (Rw.Own.alloc L3.out (.cells #[.bool s',.slice a5 l5 c5,.bool r',.slice b5 m5 d5] 120)));(have M_:=aH.new w5 #[.bool s',.slice a5 l5 c5,.bool r',.slice b5 m5 d5] 120);(have b_:=bA w5 (.cells #[.bool s',.slice a5 l5 c5,.bool r',.slice b5 m5 d5] 120));(replace C3:=C3.keep b_);(replace N:=N.keep b_);(replace ox3:=kO ox3 b_);(replace oz3:=kO oz3 b_);(replace B3:=B3.trans (b_.mono B3.size));(clear b_);(replace ⟨C3_c0,C3_c1⟩:=C3.b2);(replace ⟨N_c0,N_c1,N_c2,N_c3⟩:=N.b4);(replace ⟨M__c0,M__c1,M__c2,M__c3⟩:=M_.b4))
   | (at_builtin;refine Rw.uX uQ (w.heap.size+2) [((s',(a5,l5,c5),r',(b5,m5,d5)):gL)] xs _ ⟨w5.heap.size+1,0,none⟩ 1 1 (by rfl) (by rfl) (.tmp 50) (.tmp 52) (by rfl) (by rfl) (by rfl) (Rw.From.lit ER _ ((s',(a5,l5,c5),r',(b5,m5,d5)):gL) (w5.heap.size+1) (ui _ _)) (by have:=Rw.Own.alloc L3.out (.cells #[.bool s',.slice a5 l5 c5,.bool r',.slice b5 m5 d5] 120);exact this) (by have h1_:=hb4.size;have h2_:=hb5.size;(try simp only [ui] at h1_ h2_ ⊢);omega) (by rw [hlen.out];simp;omega) ?_;intro v6 w6 hown6 hg6 hbl6;(have C6:=aH.grown (C3.alloc (.cells #[.bool s',.slice a5 l5 c5,.bool r',.slice b5 m5 d5] 120)) hg6 (fun e=>by have e2:g=w.heap.size:=Option.some.inj e;omega));(have on6:=uh (aF.nP (aF.alloc on.out (.cells #[.bool s',.slice a5 l5 c5,.bool r',.slice b5 m5 d5] 120)) (Rw.Own.alloc L3.out (.cells #[.bool s',.slice a5 l5 c5,.bool r',.slice b5 m5 d5] 120)) hg6));(have om6:=uh (aF.nP (aF.alloc om.out (.cells #[.bool s',.slice a5 l5 c5,.bool r',.slice b5 m5 d5] 120)) (Rw.Own.alloc L3.out (.cells #[.bool s',.slice a5 l5 c5,.bool r',.slice b5 m5 d5] 120)) hg6));(have B6:=Below.grown (B3.alloc B3.size (.cells #[.bool s',.slice a5 l5 c5,.bool r',.slice b5 m5 d5] 120)) hg6 (B3.alloc B3.size (.cells #[.bool s',.slice a5 l5 c5,.bool r',.slice b5 m5 d5] 120)).size (fun k_ hk_=>by have e2:g=k_:=Option.some.inj hk_;omega));(have hown6:=uh hown6);(have hz6:=hg6.size);(have hz7:=hb4.size);(have hz8:=hb5.size)))
  go_roundw
  case rel=>exact ⟨k+1,x',z',xs ++ [((s',(a5,l5,c5),r',(b5,m5,d5)):gL)],((s',(a5,l5,c5),r',(b5,m5,d5)):gL),by omega,(by first | (rw [hj2.out];done) | (rw [hj2.out];go_num)),hnx,hown6.out,uh (by rw [List.length_append,hlen.out];rfl),uh (by rw [List.getElem?_append_right (by rw [hlen.out];omega),hlen.out,Nat.sub_self];rfl),aF.base on6.out (Nat.zero_le _),aF.base om6.out (Nat.zero_le _),hs5,hr5,zn.out,zd.out,C6,B6,by (try simp only [ui] at hz6 hz7 hz8);omega⟩
  case measure=>simp [intOf] <;> omega
 obtain rfl:k=n:=by omega
 rw [Nat.sub_self]
 go_wp2
 exact bodyPost_ret (v:=.tuple #[.slice (some ⟨g,0,none⟩) (k+1) cap,.bool false]) (by simp [results,Tryz.results85,go_sem, *]) rfl (⟨_,_,rfl,(by rw [hout.out,hrun.out];exact ⟨rfl,zx.out,zz.out,g,cap,s,av,lv,cv,r,bv,mv,dv,rfl,h_c0,h_c1,h_c2,h_c3,hs,hr,ox.out,oz.out⟩),B⟩)
noncomputable def frq (n d:Int):Bool:=fV (bp n d) (bP n d)
theorem fY (a b:Int) (w:World) (h1:-4000000000000000000≤a) (h2:a≤4000000000000000000) (h3:-4000000000000000000≤b) (h4:b≤4000000000000000000) :
  Calls Tryz.prog 45 #[.int .i64 (a.natAbs:Int),.int .i64 (b.natAbs:Int)] w fun e w'=>e=.returned (.int .i64 (M.gcd a b))∧w=w':=by
 rw [show M.gcd a b=M.gcd a.natAbs b.natAbs from by simp [M.gcd,Int.gcd]]
 exact dD _ _ _ (by omega) (by omega) (by omega) (by omega)
theorem jB (n d:Int) (w:World) (h1:-4000000000000000000≤n) (h2:n≤4000000000000000000) (h3:-4000000000000000000≤d) (h4:d≤4000000000000000000) (h0:d≠0) :
  Calls Tryz.prog 43 #[.int .i64 n,.int .i64 d] w fun e w'=>e=.returned (.tuple #[.agg #[.int .i64 (M.pick (frq (n) (d)) (bp (n) (d))),.int .i64 (M.pick (frq (n) (d)) (bP (n) (d)))],.bool (frq (n) (d))]:Value)∧Below w.heap.size w w':=by
 have g1:=iG (a:=n) h0
 have g2:=ma (a:=n) h0
 have t1:=dT (a:=n) (d:=M.gcd n d) h1 h2 (by omega)
 have t2:=dT (a:=d) (d:=M.gcd n d) h3 h4 (by omega)
 have E:=fun w=>kD (bp n d) (bP n d) w
 unfold frq
 by_cases hn:d<0
 ·rw [di hn,dh hn] at E ⊢
  cases hok:fV (-n.tdiv (M.gcd n d)) (-d.tdiv (M.gcd n d)) <;> simp only [hok] at E <;> have E:=uh E
  all_goals
   have w1:=IntWalk.i64_in (-n.tdiv (M.gcd n d)) (by omega)
   have w2:=IntWalk.i64_in (-d.tdiv (M.gcd n d)) (by omega)
   have hg0:¬ -M.gcd n d=0:=by omega
   go_enter Tryz.func43,Tryz.ntmps43
   go_wp2_with (go_at_call 57;refine (ik _ _ _ (by omega) (by omega) (by omega) (by omega)).mono ?_;rintro e w' ⟨rfl,mq,rfl⟩)
   go_region
   all_goals
    clear w1 w2
    go_wp2_with (go_at_call 63;refine (E.out _).mono ?_;rintro e w' ⟨rfl,hb⟩;have hz_:=hb.size;(try simp only [ui,aM,World.heap_drewN,aI] at hz_);have hs0_:w.heap.size<w'.heap.size:=(by omega);have hk0_:=fun o=>(dO hb).1 (w.heap.size) o (by (try simp only [ui,aM,World.heap_drewN,aI]);omega);have hl0_:=fun o=>(dO hb).2.1 (w.heap.size) o (by (try simp only [ui,aM,World.heap_drewN,aI]);omega);have hs1_:w.heap.size+1<w'.heap.size:=(by omega);have hk1_:=fun o=>(dO hb).1 (w.heap.size+1) o (by (try simp only [ui,aM,World.heap_drewN,aI]);omega);have hl1_:=fun o=>(dO hb).2.1 (w.heap.size+1) o (by (try simp only [ui,aM,World.heap_drewN,aI]);omega))
    first
     | (refine bodyPost_ret (v:=.tuple #[.agg #[.int .i64 0,.int .i64 0],.bool false]) ?_ rfl ?_;(· (simp [results,Tryz.results43,go_sem, *];done));(· (refine ⟨?_,(by repeat (first | exact uk _ _ | refine aP ?_ _ | refine aS ?_ (by assumption) | refine Below.drew ?_ | refine uj ?_ (by first | exact ul _ | exact Nat.le_add_right _ _ | (simp <;> omega)) _ | refine aK ?_ _))⟩;(simp [M.fE];done))))
     | (refine bodyPost_ret (v:=.tuple #[.agg #[.int .i64 (-n.tdiv (M.gcd n d)),.int .i64 (-d.tdiv (M.gcd n d))],.bool true]) ?_ rfl ?_;(· (simp [results,Tryz.results43,go_sem, *];done));(· (refine ⟨?_,(by repeat (first | exact uk _ _ | refine aP ?_ _ | refine aS ?_ (by assumption) | refine Below.drew ?_ | refine uj ?_ (by first | exact ul _ | exact Nat.le_add_right _ _ | (simp <;> omega)) _ | refine aK ?_ _))⟩;(simp [M.d9];done))))
 rw [cg (by omega),cf (by omega)] at E ⊢
 cases hok:fV (n.tdiv (M.gcd n d)) (d.tdiv (M.gcd n d)) <;> simp only [hok] at E <;> have E:=uh E
 all_goals
  have w1:=IntWalk.i64_in (n.tdiv (M.gcd n d)) (by omega)
  have w2:=IntWalk.i64_in (d.tdiv (M.gcd n d)) (by omega)
  have hg0:¬ M.gcd n d=0:=by omega
  go_enter Tryz.func43,Tryz.ntmps43
  go_wp2_with (go_at_call 57;refine (ik _ _ _ (by omega) (by omega) (by omega) (by omega)).mono ?_;rintro e w' ⟨rfl,mq,rfl⟩)
  go_region
  all_goals
   clear w1 w2
   go_wp2_with (go_at_call 63;refine (E.out _).mono ?_;rintro e w' ⟨rfl,hb⟩;have hz_:=hb.size;(try simp only [ui,aM,World.heap_drewN,aI] at hz_);have hs0_:w.heap.size<w'.heap.size:=(by omega);have hk0_:=fun o=>(dO hb).1 (w.heap.size) o (by (try simp only [ui,aM,World.heap_drewN,aI]);omega);have hl0_:=fun o=>(dO hb).2.1 (w.heap.size) o (by (try simp only [ui,aM,World.heap_drewN,aI]);omega);have hs1_:w.heap.size+1<w'.heap.size:=(by omega);have hk1_:=fun o=>(dO hb).1 (w.heap.size+1) o (by (try simp only [ui,aM,World.heap_drewN,aI]);omega);have hl1_:=fun o=>(dO hb).2.1 (w.heap.size+1) o (by (try simp only [ui,aM,World.heap_drewN,aI]);omega))
   first
    | (refine bodyPost_ret (v:=.tuple #[.agg #[.int .i64 0,.int .i64 0],.bool false]) ?_ rfl ?_;(· (simp [results,Tryz.results43,go_sem, *];done));(· (refine ⟨?_,(by repeat (first | exact uk _ _ | refine aP ?_ _ | refine aS ?_ (by assumption) | refine Below.drew ?_ | refine uj ?_ (by first | exact ul _ | exact Nat.le_add_right _ _ | (simp <;> omega)) _ | refine aK ?_ _))⟩;(simp [M.fE];done))))
    | (refine bodyPost_ret (v:=.tuple #[.agg #[.int .i64 (n.tdiv (M.gcd n d)),.int .i64 (d.tdiv (M.gcd n d))],.bool true]) ?_ rfl ?_;(· (simp [results,Tryz.results43,go_sem, *];done));(· (refine ⟨?_,(by repeat (first | exact uk _ _ | refine aP ?_ _ | refine aS ?_ (by assumption) | refine Below.drew ?_ | refine uj ?_ (by first | exact ul _ | exact Nat.le_add_right _ _ | (simp <;> omega)) _ | refine aK ?_ _))⟩;(simp [M.d9];done))))
theorem qR (n d:Int) (w:World) (h1:-4000000000000000000≤n) (h2:n≤4000000000000000000) (h3:-4000000000000000000≤d) (h4:d≤4000000000000000000) (h0:d≠0) :
  Calls Tryz.prog 69 #[.int .i64 n,.int .i64 d] w fun e w'=>e=.returned (.tuple #[.agg #[.int .i64 (M.pick (frq (n) (d)) (bp (n) (d))),.int .i64 (M.pick (frq (n) (d)) (bP (n) (d)))],.bool (frq (n) (d))]:Value)∧Below w.heap.size w w':=by
 have g1:=iG (a:=n) h0
 have g2:=ma (a:=n) h0
 have t1:=dT (a:=n) (d:=M.gcd n d) h1 h2 (by omega)
 have t2:=dT (a:=d) (d:=M.gcd n d) h3 h4 (by omega)
 have E:=fun w=>lH (bp n d) (bP n d) w
 unfold frq
 by_cases hn:d<0
 ·rw [di hn,dh hn] at E ⊢
  cases hok:fV (-n.tdiv (M.gcd n d)) (-d.tdiv (M.gcd n d)) <;> simp only [hok] at E <;> have E:=uh E
  all_goals
   have w1:=IntWalk.i64_in (-n.tdiv (M.gcd n d)) (by omega)
   have w2:=IntWalk.i64_in (-d.tdiv (M.gcd n d)) (by omega)
   have hg0:¬ -M.gcd n d=0:=by omega
   go_enter Tryz.func69,Tryz.ntmps69
   go_wp2_with (first | (go_at_call 46;refine (dA _ _ (by omega) (by omega)).mono ?_;rintro e w' ⟨rfl,rfl⟩) | (go_at_call 45;refine (fY n d _ h1 h2 h3 h4).mono ?_;rintro e w' ⟨rfl,rfl⟩))
   go_region
   all_goals
    clear w1 w2
    go_wp2_with (go_at_call 92;refine (E.out _).mono ?_;rintro e w' ⟨rfl,hb⟩;have hz_:=hb.size;(try simp only [ui,aM,World.heap_drewN,aI] at hz_);have hs0_:w.heap.size<w'.heap.size:=(by omega);have hk0_:=fun o=>(dO hb).1 (w.heap.size) o (by (try simp only [ui,aM,World.heap_drewN,aI]);omega);have hl0_:=fun o=>(dO hb).2.1 (w.heap.size) o (by (try simp only [ui,aM,World.heap_drewN,aI]);omega);have hs1_:w.heap.size+1<w'.heap.size:=(by omega);have hk1_:=fun o=>(dO hb).1 (w.heap.size+1) o (by (try simp only [ui,aM,World.heap_drewN,aI]);omega);have hl1_:=fun o=>(dO hb).2.1 (w.heap.size+1) o (by (try simp only [ui,aM,World.heap_drewN,aI]);omega))
    first
     | (refine bodyPost_ret (v:=.tuple #[.agg #[.int .i64 0,.int .i64 0],.bool false]) ?_ rfl ?_;(· (simp [results,Tryz.results69,go_sem, *];done));(· (refine ⟨?_,(by repeat (first | exact uk _ _ | refine aP ?_ _ | refine aS ?_ (by assumption) | refine Below.drew ?_ | refine uj ?_ (by first | exact ul _ | exact Nat.le_add_right _ _ | (simp <;> omega)) _ | refine aK ?_ _))⟩;(simp [M.fE];done))))
     | (refine bodyPost_ret (v:=.tuple #[.agg #[.int .i64 (-n.tdiv (M.gcd n d)),.int .i64 (-d.tdiv (M.gcd n d))],.bool true]) ?_ rfl ?_;(· (simp [results,Tryz.results69,go_sem, *];done));(· (refine ⟨?_,(by repeat (first | exact uk _ _ | refine aP ?_ _ | refine aS ?_ (by assumption) | refine Below.drew ?_ | refine uj ?_ (by first | exact ul _ | exact Nat.le_add_right _ _ | (simp <;> omega)) _ | refine aK ?_ _))⟩;(simp [M.d9];done))))
 rw [cg (by omega),cf (by omega)] at E ⊢
 cases hok:fV (n.tdiv (M.gcd n d)) (d.tdiv (M.gcd n d)) <;> simp only [hok] at E <;> have E:=uh E
 all_goals
  have w1:=IntWalk.i64_in (n.tdiv (M.gcd n d)) (by omega)
  have w2:=IntWalk.i64_in (d.tdiv (M.gcd n d)) (by omega)
  have hg0:¬ M.gcd n d=0:=by omega
  go_enter Tryz.func69,Tryz.ntmps69
  go_wp2_with (first | (go_at_call 46;refine (dA _ _ (by omega) (by omega)).mono ?_;rintro e w' ⟨rfl,rfl⟩) | (go_at_call 45;refine (fY n d _ h1 h2 h3 h4).mono ?_;rintro e w' ⟨rfl,rfl⟩))
  go_region
  all_goals
   clear w1 w2
   go_wp2_with (go_at_call 92;refine (E.out _).mono ?_;rintro e w' ⟨rfl,hb⟩;have hz_:=hb.size;(try simp only [ui,aM,World.heap_drewN,aI] at hz_);have hs0_:w.heap.size<w'.heap.size:=(by omega);have hk0_:=fun o=>(dO hb).1 (w.heap.size) o (by (try simp only [ui,aM,World.heap_drewN,aI]);omega);have hl0_:=fun o=>(dO hb).2.1 (w.heap.size) o (by (try simp only [ui,aM,World.heap_drewN,aI]);omega);have hs1_:w.heap.size+1<w'.heap.size:=(by omega);have hk1_:=fun o=>(dO hb).1 (w.heap.size+1) o (by (try simp only [ui,aM,World.heap_drewN,aI]);omega);have hl1_:=fun o=>(dO hb).2.1 (w.heap.size+1) o (by (try simp only [ui,aM,World.heap_drewN,aI]);omega))
   first
    | (refine bodyPost_ret (v:=.tuple #[.agg #[.int .i64 0,.int .i64 0],.bool false]) ?_ rfl ?_;(· (simp [results,Tryz.results69,go_sem, *];done));(· (refine ⟨?_,(by repeat (first | exact uk _ _ | refine aP ?_ _ | refine aS ?_ (by assumption) | refine Below.drew ?_ | refine uj ?_ (by first | exact ul _ | exact Nat.le_add_right _ _ | (simp <;> omega)) _ | refine aK ?_ _))⟩;(simp [M.fE];done))))
    | (refine bodyPost_ret (v:=.tuple #[.agg #[.int .i64 (n.tdiv (M.gcd n d)),.int .i64 (d.tdiv (M.gcd n d))],.bool true]) ?_ rfl ?_;(· (simp [results,Tryz.results69,go_sem, *];done));(· (refine ⟨?_,(by repeat (first | exact uk _ _ | refine aP ?_ _ | refine aS ?_ (by assumption) | refine Below.drew ?_ | refine uj ?_ (by first | exact ul _ | exact Nat.le_add_right _ _ | (simp <;> omega)) _ | refine aK ?_ _))⟩;(simp [M.d9];done))))
namespace M
noncomputable def fmk (n d:Int):Option (Int × Int):=if frq n d then some (bp n d,bP n d) else none
def fN (r:Option (Int × Int)):Int:=(r.getD (0,0)).1
def fD (r:Option (Int × Int)):Int:=(r.getD (0,0)).2
theorem qQ (n d:Int):(.tuple #[.agg #[.int .i64 (M.pick (frq (n) (d)) (bp (n) (d))),.int .i64 (M.pick (frq (n) (d)) (bP (n) (d)))],.bool (frq (n) (d))]:Value)=.tuple #[.agg #[.int .i64 (fN (fmk n d)),.int .i64 (fD (fmk n d))],.bool (fmk n d).isSome]:=by
 unfold fmk
 cases h:frq n d <;> simp [M.fE,M.d9,fN,fD]
theorem rp {n d:Int} (h:fV n d=true):-1000000000≤n∧n≤1000000000∧1≤d∧d≤1000000000:=by
 unfold fV at h
 simp only [Bool.and_eq_true] at h
 have h1:=M.el h.1.1
 have h2:=M.el h.1.2
 omega
end M
theorem lI (n d:Int) (w:World) (h1:-4000000000000000000≤n) (h2:n≤4000000000000000000) (h3:-4000000000000000000≤d) (h4:d≤4000000000000000000) (h0:d≠0) :
  Calls Tryz.prog 69 #[.int .i64 n,.int .i64 d] w fun e w'=>e=.returned (.tuple #[.agg #[.int .i64 (M.fN (M.fmk n d)),.int .i64 (M.fD (M.fmk n d))],.bool (M.fmk n d).isSome])∧Below w.heap.size w w':=by
 rw [←M.qQ]
 exact qR n d w h1 h2 h3 h4 h0
theorem fA (n d:Int) (w:World) (h1:-4000000000000000000≤n) (h2:n≤4000000000000000000) (h3:-4000000000000000000≤d) (h4:d≤4000000000000000000) (h0:d≠0) :
  Calls Tryz.prog 43 #[.int .i64 n,.int .i64 d] w fun e w'=>e=.returned (.tuple #[.agg #[.int .i64 (M.fN (M.fmk n d)),.int .i64 (M.fD (M.fmk n d))],.bool (M.fmk n d).isSome])∧Below w.heap.size w w':=by
 rw [←M.qQ]
 exact jB n d w h1 h2 h3 h4 h0
namespace M
noncomputable def pn (a:Int):Int:=fN (fmk a 4096)
noncomputable def pd (a:Int):Int:=fD (fmk a 4096)
def aO (lo hi:Int):Bool:=decide (lo≤hi) && decide (-409600000≤lo) && decide (hi≤409600000)
theorem bi {lo hi:Int} (h:aO lo hi=true):lo≤hi∧-409600000≤lo∧hi≤409600000:=by
 unfold aO at h
 simp only [Bool.and_eq_true,decide_eq_true_eq] at h
 exact ⟨h.1.1,h.1.2,h.2⟩
theorem nk (a:Int):∃ g q n:Int,M.gcd a 4096=g∧1≤g∧g≤4096∧4096=g*q∧1≤q∧q≤4096∧a=n*g:=by
 have h1:(M.gcd a 4096) ∣ 4096:=Int.gcd_dvd_right ..
 have h2:(M.gcd a 4096) ∣ a:=Int.gcd_dvd_left ..
 have h3:=iG (a:=a) (b:=4096) (by decide)
 obtain ⟨q,hq⟩:=h1
 obtain ⟨n,hn⟩:=h2
 generalize M.gcd a 4096=g at *
 have hq1:1≤q:=by
  rcases Int.lt_or_le q 1 with h | h
  ·have:=Int.mul_nonpos_of_nonneg_of_nonpos (a:=g) (b:=q) (by omega) (by omega)
   omega
  exact h
 have hg:g≤4096:=Int.le_of_dvd (by decide) ⟨q,hq⟩
 have hq2:q≤4096:=Int.le_of_dvd (by decide) ⟨g,by rw [Int.mul_comm];exact hq⟩
 exact ⟨g,q,n,rfl,by omega,hg,hq,hq1,hq2,by rw [hn,Int.mul_comm]⟩
theorem nh {a g q n:Int} (hg:M.gcd a 4096=g) (h1:1≤g) (hq:4096=g*q) (hn:a=n*g):fmk a 4096=if fV n q then some (n,q) else none:=by
 have e1:bp a 4096=n:=by rw [cg (by omega),hg,hn,Int.mul_tdiv_cancel _ (by omega)]
 have e2:bP a 4096=q:=by rw [cf (by omega),hg,hq,Int.mul_tdiv_cancel_left _ (by omega)]
 unfold fmk frq
 rw [e1,e2]
theorem kA {a:Int} (h:(fmk a 4096).isSome=true):fV (pn a) (pd a)=true∧1≤pd a∧pd a≤4096∧(4096:Int) % pd a=0∧pn a*(4096 / pd a)=a∧1≤4096 / pd a∧4096 / pd a≤4096∧-1000000000≤pn a∧pn a≤1000000000:=by
 obtain ⟨g,q,n,hg,h1,h2,hq,h3,h4,hn⟩:=nk a
 have hf:=nh hg h1 hq hn
 unfold pn pd
 rw [hf] at h ⊢
 split at h
 ·rename_i hok
  have hb:=rp hok
  rw [if_pos hok]
  show fV n q=true∧_
  have hdiv:(4096:Int) / q=g:=by rw [hq];exact Int.mul_ediv_cancel _ (by omega)
  refine ⟨hok,h3,h4,?_,?_,?_,?_,hb.1,hb.2.1⟩
  ·show (4096:Int) % q=0
   rw [hq];exact Int.mul_emod_left _ _
  ·show n*(4096 / q)=a
   rw [hdiv,hn]
  ·show 1≤(4096:Int) / q
   omega
  show (4096:Int) / q≤4096
  omega
 cases h
theorem bQ {a:Int} (h1:-409600000≤a) (h2:a≤409600000):(fmk a 4096).isSome=true:=by
 obtain ⟨g,q,n,hg,hg1,hg2,hq,h3,h4,hn⟩:=nk a
 rw [nh hg hg1 hq hn]
 have hnb:-1000000000≤n∧n≤1000000000:=by
  constructor
  ·rcases Int.lt_or_le n (-1000000000) with h | h
   ·have:n*g≤n*1:=Int.mul_le_mul_of_nonpos_left (by omega) hg1
    omega
   exact h
  rcases Int.lt_or_le 1000000000 n with h | h
  ·have:n*1≤n*g:=Int.mul_le_mul_of_nonneg_left hg1 (by omega)
   omega
  exact h
 have hgcd:M.gcd n q=1:=by
  have e1:M.gcd (n*g) (q*g)=M.gcd n q*g:=by
   unfold M.gcd
   rw [Int.gcd_mul_right]
   have:(g.natAbs:Int)=g:=by omega
   rw [Int.natCast_mul,this]
  rw [←hn,Int.mul_comm q g,←hq,hg] at e1
  have:=Int.eq_of_mul_eq_mul_right (a:=g) (b:=1) (c:=M.gcd n q) (by omega) (by omega)
  exact this.symm
 have hok:fV n q=true:=by
  unfold fV M.ins
  rw [hgcd]
  simp only [Bool.and_eq_true,decide_eq_true_eq]
  exact ⟨⟨by omega,hnb⟩,rfl⟩
 rw [if_pos hok]
 rfl
theorem tX {a:Int} (h:(fmk a 4096).isSome=true):-4096000000000≤a∧a≤4096000000000:=by
 obtain ⟨-,-,-,-,h5,h6,h7,h8,h9⟩:=kA h
 generalize 4096 / pd a=g at *
 have:=aL (x:=pn a) (y:=g) (m:=1000000000) (n:=4096) (by omega) (by omega) (by omega) (by omega)
 omega
theorem ng {a b:Int} (hb:0<b) (h:a.tmod b<0):a.tdiv b - 1=a / b:=by
 have h1:=Int.mul_tdiv_add_tmod a b
 have h2:=Int.lt_tmod_of_pos a hb
 exact ((Int.ediv_emod_unique (r:=a.tmod b+b) hb).2 ⟨by rw [Int.mul_sub];omega,by omega,by omega⟩ |>.1).symm
theorem nf {a b:Int} (hb:0<b) (h:¬ a.tmod b<0):a.tdiv b=a / b:=by
 have h1:=Int.mul_tdiv_add_tmod a b
 have h2:=Int.tmod_lt_of_pos a hb
 exact ((Int.ediv_emod_unique hb).2 ⟨by omega,by omega,h2⟩ |>.1).symm
end M
theorem gS (a b:Int) (w:World) (h1:-4000000000000000000≤a) (h2:a≤4000000000000000000) (hb:0<b) (hb2:b≤4000000000000000000) :
  Calls Tryz.prog 98 #[.int .i64 a,.int .i64 b] w fun e w'=>e=.returned (.int .i64 (a / b))∧w=w':=by
 have t1:=dT (a:=a) (d:=b) h1 h2 (by omega)
 have m1:=Int.tmod_lt_of_pos a hb
 have m2:=Int.lt_tmod_of_pos a hb
 have hf:=M.nf (a:=a) hb
 have ht:=M.ng (a:=a) hb
 have hb0:¬ b=0:=by omega
 by_cases h:a.tmod b<0
 ·have ht2:=uh (ht h)
  clear hf ht
  go_enter Tryz.func98,Tryz.ntmps98
  go_wp2
  go_ret
  exact ⟨by first | rfl | (rw [←ht2.out];rfl),rfl⟩
 have hf2:=uh (hf h)
 clear ht hf
 go_enter Tryz.func98,Tryz.ntmps98
 go_wp2
 go_ret
 exact ⟨by first | rfl | (rw [←hf2.out];rfl),rfl⟩
theorem lG (a b:Int) (w:World) (h1:-4000000000000000000≤a) (h2:a≤4000000000000000000) (hb:0<b) (hb2:b≤4000000000000000000) :
  Calls Tryz.prog 108 #[.int .i64 a,.int .i64 b] w fun e w'=>e=.returned (.int .i64 (a / b))∧w=w':=by
 have t1:=dT (a:=a) (d:=b) h1 h2 (by omega)
 have m1:=Int.tmod_lt_of_pos a hb
 have m2:=Int.lt_tmod_of_pos a hb
 have hf:=M.nf (a:=a) hb
 have ht:=M.ng (a:=a) hb
 have hb0:¬ b=0:=by omega
 have hb1:(b == 0)=false:=by rw [beq_eq_false_iff_ne];exact hb0
 by_cases h:a.tmod b<0
 ·have ht2:=uh (ht h)
  clear hf ht
  go_enter Tryz.func108,Tryz.ntmps108
  go_wp2
  go_ret
  exact ⟨by first | rfl | (rw [←ht2.out];rfl),rfl⟩
 have hf2:=uh (hf h)
 clear ht hf
 go_enter Tryz.func108,Tryz.ntmps108
 go_wp2
 go_ret
 exact ⟨by first | rfl | (rw [←hf2.out];rfl),rfl⟩
theorem eI {a b k:Int} (h1:-k≤a) (h2:a≤k) (hb:0<b) (hk:0≤k):-k≤a / b∧a / b≤k:=by
 have e1:=Int.mul_ediv_add_emod a b
 have e2:=Int.emod_nonneg a (by omega:b≠0)
 have e3:=Int.emod_lt_of_pos a hb
 constructor
 ·rcases Int.lt_or_le (a / b) (-k) with h | h
  ·have:b*(a / b)≤b*(-k - 1):=Int.mul_le_mul_of_nonneg_left (by omega) (by omega)
   have h4:b*(-k - 1)≤1*(-k - 1):=Int.mul_le_mul_of_nonpos_right (by omega) (by omega)
   have h5:b*(-k - 1)=b*(-k) - b:=by rw [Int.mul_sub,Int.mul_one]
   have h6:b*(-k)≤1*(-k):=Int.mul_le_mul_of_nonpos_right (by omega) (by omega)
   omega
  exact h
 rcases Int.lt_or_le k (a / b) with h | h
 ·have h4:b*(k+1)≤b*(a / b):=Int.mul_le_mul_of_nonneg_left (by omega) (by omega)
  have h5:1*(k+1)≤b*(k+1):=Int.mul_le_mul_of_nonneg_right (by omega) (by omega)
  omega
 exact h
theorem tf (a b:Int) (w:World) (h1:-4000000000000000000≤a) (h2:a≤4000000000000000000) (hb:0<b) (hb2:b≤4000000000000000000) :
  Calls Tryz.prog 109 #[.int .i64 a,.int .i64 b] w fun e w'=>e=.returned (.int .i64 (-(-a / b)))∧w=w':=by
 have P:=fun W=>lG (-a) b W (by omega) (by omega) hb hb2
 have hq:=eI (a:=-a) (b:=b) (k:=4000000000000000000) (by omega) (by omega) hb (by omega)
 obtain ⟨q1,q2⟩:=hq
 generalize -a / b=q at *
 replace P:=uh P
 go_enter Tryz.func109,Tryz.ntmps109
 go_wp2_with (go_at_call 108;(with_reducible refine (P.out _).mono ?_);rintro e w4 ⟨rfl,rfl⟩)
 go_ret
 exact ⟨rfl,rfl⟩
theorem iN (lo hi:Int) (w:World) :
  Calls Tryz.prog 42 #[.agg #[.int .i64 lo,.int .i64 hi]] w fun e w'=>e=.returned (.bool (M.aO lo hi))∧Below w.heap.size w w':=by
 unfold M.aO
 by_cases h1:lo≤hi
 ·by_cases h2:-409600000≤lo
  ·by_cases h3:hi≤409600000
   all_goals
    go_enter Tryz.func42,Tryz.ntmps42
    go_wp2
    go_ret;exact ⟨cy (by simp [h1,h2,h3]),(by repeat (first | exact uk _ _ | refine aP ?_ _ | refine aS ?_ (by assumption) | refine Below.drew ?_ | refine uj ?_ (by first | exact ul _ | exact Nat.le_add_right _ _ | (simp <;> omega)) _ | refine aK ?_ _))⟩
  go_enter Tryz.func42,Tryz.ntmps42
  go_wp2
  go_ret;exact ⟨cy (by simp [h1,h2] <;> omega),(by repeat (first | exact uk _ _ | refine aP ?_ _ | refine aS ?_ (by assumption) | refine Below.drew ?_ | refine uj ?_ (by first | exact ul _ | exact Nat.le_add_right _ _ | (simp <;> omega)) _ | refine aK ?_ _))⟩
 go_enter Tryz.func42,Tryz.ntmps42
 go_wp2
 go_ret;exact ⟨cy (by simp [h1] <;> omega),(by repeat (first | exact uk _ _ | refine aP ?_ _ | refine aS ?_ (by assumption) | refine Below.drew ?_ | refine uj ?_ (by first | exact ul _ | exact Nat.le_add_right _ _ | (simp <;> omega)) _ | refine aK ?_ _))⟩
theorem tl (a b c d:Int) (w:World) (h1:-4000000000000000000≤a) (h2:a≤4000000000000000000) (h3:-4000000000000000000≤b) (h4:b≤4000000000000000000) (h5:-4000000000000000000≤c) (h6:c≤4000000000000000000) (h7:-4000000000000000000≤d) (h8:d≤4000000000000000000) :
  Calls Tryz.prog 73 #[.agg #[.int .i64 a,.int .i64 b],.agg #[.int .i64 c,.int .i64 d]] w fun e w'=>e=.returned (.agg #[.int .i64 (a+c),.int .i64 (b+d)])∧Below w.heap.size w w':=by
 go_enter Tryz.func73,Tryz.ntmps73
 go_wp2
 exact bodyPost_ret (v:=.agg #[.int .i64 (a+c),.int .i64 (b+d)]) (by simp [results,Tryz.results73,go_sem, *]) rfl (⟨rfl,(by repeat (first | exact uk _ _ | refine aP ?_ _ | refine aS ?_ (by assumption) | refine Below.drew ?_ | refine uj ?_ (by first | exact ul _ | exact Nat.le_add_right _ _ | (simp <;> omega)) _ | refine aK ?_ _))⟩)
theorem sL (a b c d:Int) (w:World) (h1:-4000000000000000000≤a) (h2:a≤4000000000000000000) (h3:-4000000000000000000≤b) (h4:b≤4000000000000000000) (h5:-4000000000000000000≤c) (h6:c≤4000000000000000000) (h7:-4000000000000000000≤d) (h8:d≤4000000000000000000) :
  Calls Tryz.prog 83 #[.agg #[.int .i64 a,.int .i64 b],.agg #[.int .i64 c,.int .i64 d]] w fun e w'=>e=.returned (.agg #[.int .i64 (a - d),.int .i64 (b - c)])∧Below w.heap.size w w':=by
 go_enter Tryz.func83,Tryz.ntmps83
 go_wp2
 exact bodyPost_ret (v:=.agg #[.int .i64 (a - d),.int .i64 (b - c)]) (by simp [results,Tryz.results83,go_sem, *]) rfl (⟨rfl,(by repeat (first | exact uk _ _ | refine aP ?_ _ | refine aS ?_ (by assumption) | refine Below.drew ?_ | refine uj ?_ (by first | exact ul _ | exact Nat.le_add_right _ _ | (simp <;> omega)) _ | refine aK ?_ _))⟩)
theorem qG (a b c d:Int) (w:World) :
  Calls Tryz.prog 94 #[.agg #[.int .i64 a,.int .i64 b],.agg #[.int .i64 c,.int .i64 d]] w fun e w'=>e=.returned (.agg #[.int .i64 (max a c),.int .i64 (min b d)])∧Below w.heap.size w w':=by
 go_enter Tryz.func94,Tryz.ntmps94
 go_wp2
 exact bodyPost_ret (v:=.agg #[.int .i64 (max a c),.int .i64 (min b d)]) (by simp [results,Tryz.results94,go_sem, *]) rfl (⟨rfl,(by repeat (first | exact uk _ _ | refine aP ?_ _ | refine aS ?_ (by assumption) | refine Below.drew ?_ | refine uj ?_ (by first | exact ul _ | exact Nat.le_add_right _ _ | (simp <;> omega)) _ | refine aK ?_ _))⟩)
theorem mg (lo hi:Int) (ok:Bool) (w:World) :
  Calls Tryz.prog 25 #[.agg #[.int .i64 lo,.int .i64 hi],.bool ok] w fun e w'=>e=.returned (.tuple #[.agg #[.int .i64 (M.pick (ok && M.aO lo hi) (M.pn lo)),.int .i64 (M.pick (ok && M.aO lo hi) (M.pd (lo))),.int .i64 (M.pick (ok && M.aO lo hi) (M.pn (hi))),.int .i64 (M.pick (ok && M.aO lo hi) (M.pd (hi)))],.bool (ok && M.aO lo hi)])∧Below w.heap.size w w':=by
 have PV:=uh fun W=>iN lo hi W
 cases ok with
 | false=>
  go_enter Tryz.func25,Tryz.ntmps25
  go_wp2
  exact bodyPost_ret (v:=.tuple #[.agg #[.int .i64 0,.int .i64 0,.int .i64 0,.int .i64 0],.bool false]) (by simp [results,Tryz.results25,go_sem, *]) rfl (⟨by simp [M.pick],(by repeat (first | exact uk _ _ | refine aP ?_ _ | refine aS ?_ (by assumption) | refine Below.drew ?_ | refine uj ?_ (by first | exact ul _ | exact Nat.le_add_right _ _ | (simp <;> omega)) _ | refine aK ?_ _))⟩)
 | true=>
 cases hs:M.aO lo hi with
 | false=>
  have PV1:=PV.out
  rw [hs] at PV1
  have PV1:=uh PV1
  clear PV hs
  have R:=((aH.new (w.alloc (.cells #[.int .i64 lo,.int .i64 hi] 61)) #[.int .i64 0,.int .i64 0,.int .i64 0,.int .i64 0] 42))
  rw [ui] at R
  have B:=((uk w.heap.size w).alloc (ul _) (.cells #[.int .i64 lo,.int .i64 hi] 61)).alloc (by rw [ui];omega) (.cells #[.int .i64 0,.int .i64 0,.int .i64 0,.int .i64 0] 42)
  go_enter Tryz.func25,Tryz.ntmps25
  go_wp2_with (go_at_call 42;(with_reducible refine (PV1.out _).mono ?_);rintro e w4 ⟨rfl,hb4⟩;(have R2:=(R.keep hb4).aR);(have ⟨c0,c1,c2,c3,f0,f1,f2,f3,_⟩:=R2);(have B4:=B.trans (hb4.mono B.size)))
  exact bodyPost_ret (v:=.tuple #[.agg #[.int .i64 0,.int .i64 0,.int .i64 0,.int .i64 0],.bool false]) (by simp [results,Tryz.results25,go_sem, *]) rfl (⟨by simp [M.pick],uj (uj (uj (uj B4 (by simp <;> omega) _) (by simp <;> omega) _) (by simp <;> omega) _) (by simp <;> omega) _⟩)
 | true=>
 obtain ⟨h1,h2,h3⟩:=M.bi hs
 have PV1:=PV.out
 rw [hs] at PV1
 have PV1:=uh PV1
 clear PV hs
 have P1:=fun W=>fA lo 4096 W (by omega) (by omega) (by omega) (by omega) (by omega)
 have P2:=fun W=>fA hi 4096 W (by omega) (by omega) (by omega) (by omega) (by omega)
 have e1:=uh (show M.pn lo=M.fN (M.fmk lo 4096) from rfl)
 have e2:=uh (show M.pd lo=M.fD (M.fmk lo 4096) from rfl)
 have e3:=uh (show M.pn hi=M.fN (M.fmk hi 4096) from rfl)
 have e4:=uh (show M.pd hi=M.fD (M.fmk hi 4096) from rfl)
 generalize (M.fmk lo 4096).isSome=o1 at *
 generalize (M.fmk hi 4096).isSome=o2 at *
 generalize M.fN (M.fmk lo 4096)=p1 at *
 generalize M.fD (M.fmk lo 4096)=p2 at *
 generalize M.fN (M.fmk hi 4096)=p3 at *
 generalize M.fD (M.fmk hi 4096)=p4 at *
 replace P1:=uh P1
 replace P2:=uh P2
 have S:=(aH.new w #[.int .i64 lo,.int .i64 hi] 61).alloc (.cells #[.int .i64 0,.int .i64 0,.int .i64 0,.int .i64 0] 42)
 have R:=((aH.new (w.alloc (.cells #[.int .i64 lo,.int .i64 hi] 61)) #[.int .i64 0,.int .i64 0,.int .i64 0,.int .i64 0] 42))
 rw [ui] at R
 have B:=((uk w.heap.size w).alloc (ul _) (.cells #[.int .i64 lo,.int .i64 hi] 61)).alloc (by rw [ui];omega) (.cells #[.int .i64 0,.int .i64 0,.int .i64 0,.int .i64 0] 42)
 generalize hw3:(w.alloc (.cells #[.int .i64 lo,.int .i64 hi] 61)).alloc (.cells #[.int .i64 0,.int .i64 0,.int .i64 0,.int .i64 0] 42)=wc at *
 have S_c0:=S.box.c0
 have S_c1:=S.box.c1
 go_enter Tryz.func25,Tryz.ntmps25
 go_wp2_with (first
  | (go_at_call 42;(with_reducible refine (PV1.out _).mono ?_);rintro e w4 ⟨rfl,hb4⟩;(replace S:=S.keep hb4);(replace R:=R.keep hb4);(replace B:=B.trans (hb4.mono B.size));(replace ⟨S_c0,S_c1⟩:=S.b2);(replace ⟨R_c0,R_c1,R_c2,R_c3,R_f0,R_f1,R_f2,R_f3⟩:=R.b4f))
  | (go_at_call 43;(with_reducible refine (P1.out _).mono ?_);rintro e w5 ⟨rfl,hb5⟩;(replace S:=S.keep hb5);(replace R:=R.keep hb5);(replace B:=B.trans (hb5.mono B.size));(have F:=aH.new w5 #[.int .i64 p1,.int .i64 p2] 40);(have b_:=bA w5 (.cells #[.int .i64 p1,.int .i64 p2] 40));(replace S:=S.keep b_);(replace R:=R.keep b_);(replace B:=B.trans (b_.mono B.size));(clear b_);(replace ⟨S_c0,S_c1⟩:=S.b2);(replace ⟨R_c0,R_c1,R_c2,R_c3,R_f0,R_f1,R_f2,R_f3⟩:=R.b4f);(replace ⟨F_c0,F_c1⟩:=F.b2))
  | (go_at_call 43;(with_reducible refine (P2.out _).mono ?_);rintro e w6 ⟨rfl,hb6⟩;(replace S:=S.keep hb6);(replace R:=R.keep hb6);(replace F:=F.keep hb6);(replace B:=B.trans (hb6.mono B.size));(have G:=aH.new w6 #[.int .i64 p3,.int .i64 p4] 40);(have b_:=bA w6 (.cells #[.int .i64 p3,.int .i64 p4] 40));(replace S:=S.keep b_);(replace R:=R.keep b_);(replace F:=F.keep b_);(replace B:=B.trans (b_.mono B.size));(clear b_);(replace ⟨S_c0,S_c1⟩:=S.b2);(replace ⟨R_c0,R_c1,R_c2,R_c3,R_f0,R_f1,R_f2,R_f3⟩:=R.b4f);(replace ⟨F_c0,F_c1⟩:=F.b2);(replace ⟨G_c0,G_c1⟩:=G.b2)))
 exact bodyPost_ret (v:=.tuple #[.agg #[.int .i64 p1,.int .i64 p2,.int .i64 p3,.int .i64 p4],.bool true]) (by simp [results,Tryz.results25,go_sem, *]) rfl (⟨by simp [M.pick,e1.out,e2.out,e3.out,e4.out],uj (uj (uj (uj B (by simp <;> omega) _) (by simp <;> omega) _) (by simp <;> omega) _) (by simp <;> omega) _⟩)
theorem fR (a:Int) (w:World) (h:(M.fmk a 4096).isSome=true) :
  Calls Tryz.prog 68 #[.agg #[.int .i64 (M.pn a),.int .i64 (M.pd a)]] w fun e w'=>e=.returned (.tuple #[.int .i64 a,.bool (M.ins a (-409600000) 409600000)])∧Below w.heap.size w w':=by
 obtain ⟨hok,d1,d2,hm,hp,g1,g2,n1,n2⟩:=M.kA h
 have hfar:=M.tX h
 obtain ⟨r1,r2⟩:=hfar
 have PF:=fun W=>lH (M.pn a) (M.pd a) W
 rw [hok] at PF
 generalize M.pn a=n at *
 generalize M.pd a=d at *
 have hd0:¬ d=0:=by omega
 have ht:(4096:Int).tmod d=0:=by rw [Int.tmod_eq_emod_of_nonneg (by omega)];exact hm
 have hq:(4096:Int).tdiv d=4096 / d:=Int.tdiv_eq_ediv_of_nonneg (by omega)
 have PI:=fun W=>dQ a (-409600000) 409600000 W
 replace PF:=uh PF
 replace PI:=uh PI
 clear h hok
 generalize 4096 / d=g at *
 have hq2:=uh hq
 have hp2:=uh hp
 have hw1:=uh (show IntKind.i64.wrap g=g from IntWalk.i64_in _ (by omega))
 have hw2:=uh (show IntKind.i64.wrap (n*g)=a by rw [hp];exact IntWalk.i64_in _ (by omega))
 clear hq hp
 have hm2:=uh hm
 have V:=aH.new w #[.int .i64 n,.int .i64 d] 40
 have B:=(uk w.heap.size w).alloc (ul _) (.cells #[.int .i64 n,.int .i64 d] 40)
 generalize hw3:w.alloc (.cells #[.int .i64 n,.int .i64 d] 40)=wc at *
 have V_c0:=V.box.c0
 have V_c1:=V.box.c1
 go_enter Tryz.func68,Tryz.ntmps68
 go_upto_region 3 with (go_at_call 92;(with_reducible refine (PF.out _).mono ?_);rintro e w4 ⟨rfl,hb4⟩;(replace V:=V.keep hb4);(replace B:=B.trans (hb4.mono B.size));(replace ⟨V_c0,V_c1⟩:=V.b2))
 refine Rg.bF 7 [.is (.pointer (some ⟨w.heap.size,0,none⟩)),.is (.int .i64 n),.is (.pointer (some ⟨w.heap.size,1,none⟩)),.is (.int .i64 d),.is (.int .i64 g),.is (.int .i64 a),.is (.int .i64 a)] (by kernel_rfl) (by kernel_rfl) (by kernel_rfl) ⟨?_,?_,?_,?_,?_,?_,?_,trivial⟩ ?_
 ·intro _ ac_ w_ hB hr
  have e1:ac_.tmps[1]?=some (.pointer (some ⟨w.heap.size,0,none⟩)):=hr 1 (by decide)
  exact Rg.aG rfl (by go_simp)
 ·intro _ ac_ w_ hB hr
  have e14:=Rg.ev1 (hr 14 (by decide))
  have k0:=aE hB V.box.c0
  exact Rg.aG rfl (by go_simp)
 ·intro _ ac_ w_ hB hr
  have e1:ac_.tmps[1]?=some (.pointer (some ⟨w.heap.size,0,none⟩)):=hr 1 (by decide)
  exact Rg.aG rfl (by go_simp)
 ·intro _ ac_ w_ hB hr
  have e16:=Rg.ev1 (hr 16 (by decide))
  have k1:=aE hB V.box.c1
  exact Rg.aG rfl (by go_simp)
 ·intro _ ac_ w_ hB hr
  have e17:=Rg.ev1 (hr 17 (by decide))
  have ec:=Rg.ec ac_
  exact Rg.aG rfl (by go_simp;first | done | (rw [hq2.out];first | done | rw [hw1.out] | (exact ⟨hd0,by rw [hw1.out]⟩)) | (simp only [hq2.out,hw1.out];done) | (simp [hq2.out,hw1.out,hd0];done))
 ·intro _ ac_ w_ hB hr
  have e15:=Rg.ev1 (hr 15 (by decide))
  have e18:=Rg.ev1 (hr 18 (by decide))
  exact Rg.aG rfl (by go_simp;first | done | (rw [hw2.out];done) | exact hw2.out)
 ·intro _ ac_ w_ hB hr
  have e19:=Rg.ev1 (hr 19 (by decide))
  exact Rg.aG rfl (by go_simp)
 intro vals wz hB hv hne
 have v_6:vals 6=.int .i64 a:=hv 6 (by decide)
 simp only [Rg.am,Rg.fill,Act.put,Nat.reduceAdd]
 clear hv
 simp only [v_6]
 clear v_6
 unfold Rg.aV
 go_wp2_with (go_at_call 19;(with_reducible refine (PI.out _).mono ?_);rintro e w6 ⟨rfl,rfl⟩)
 go_ret2
 exact ⟨rfl,B.trans (hB.mono B.size)⟩
theorem iy (a b:Int) (w:World) (h1:(M.fmk a 4096).isSome=true) (h2:(M.fmk b 4096).isSome=true) :
  Calls Tryz.prog 70 #[.agg #[.int .i64 (M.pn a),.int .i64 (M.pd a),.int .i64 (M.pn b),.int .i64 (M.pd b)]] w fun e w'=>e=.returned (.bool (M.aO a b))∧Below w.heap.size w w':=by
 have P1:=uh fun W=>fR a W h1
 have P2:=uh fun W=>fR b W h2
 have hs:M.aO a b=(M.ins a (-409600000) 409600000 && M.ins b (-409600000) 409600000 && decide (a≤b)):=by
  rw [Bool.eq_iff_iff]
  unfold M.aO M.ins
  simp only [Bool.and_eq_true,decide_eq_true_eq]
  omega
 rw [hs]
 clear hs
 generalize M.pn a=n1 at *
 generalize M.pd a=d1 at *
 generalize M.pn b=n2 at *
 generalize M.pd b=d2 at *
 have V:=aH.new w #[.int .i64 n1,.int .i64 d1,.int .i64 n2,.int .i64 d2] 42
 have B:=(uk w.heap.size w).alloc (ul _) (.cells #[.int .i64 n1,.int .i64 d1,.int .i64 n2,.int .i64 d2] 42)
 generalize hw3:w.alloc (.cells #[.int .i64 n1,.int .i64 d1,.int .i64 n2,.int .i64 d2] 42)=wc at *
 have V_c0:=V.aR.c0
 have V_c1:=V.aR.c1
 have V_c2:=V.aR.c2
 have V_c3:=V.aR.c3
 generalize M.ins a (-409600000) 409600000=i1 at *
 generalize M.ins b (-409600000) 409600000=i2 at *
 by_cases hab:a≤b <;> cases i1 <;> cases i2
 all_goals
  go_enter Tryz.func70,Tryz.ntmps70
  go_wp2_with (go_at_call 68;first | ((with_reducible refine (P1.out _).mono ?_);rintro e w4 ⟨rfl,hb4⟩;(have V4:=V.keep hb4);(have B4:=B.trans (hb4.mono B.size));(have y0:=V4.aR.c0);(have y1:=V4.aR.c1);(have y2:=V4.aR.c2);(have y3:=V4.aR.c3)) | ((with_reducible refine (P2.out _).mono ?_);rintro e w5 ⟨rfl,hb5⟩;(have B5:=B4.trans (hb5.mono B4.size))))
  all_goals
   go_ret
   exact ⟨by first | rfl | (simp [hab];done) | (exact cy (by simp [hab];done)) | (exact cy (by simp <;> omega)),B5⟩
theorem eK (a b:Int) (w:World) (h1:(M.fmk a 4096).isSome=true) (h2:(M.fmk b 4096).isSome=true) :
  Calls Tryz.prog 53 #[.agg #[.int .i64 (M.pn a),.int .i64 (M.pd a),.int .i64 (M.pn b),.int .i64 (M.pd b)]] w fun e w'=>e=.returned (.tuple #[.int .i64 a,.int .i64 b])∧Below w.heap.size w w':=by
 have P1:=uh fun W=>fR a W h1
 have P2:=uh fun W=>fR b W h2
 generalize M.pn a=n1 at *
 generalize M.pd a=d1 at *
 generalize M.pn b=n2 at *
 generalize M.pd b=d2 at *
 generalize M.ins a (-409600000) 409600000=i1 at *
 generalize M.ins b (-409600000) 409600000=i2 at *
 have V:=aH.new w #[.int .i64 n1,.int .i64 d1,.int .i64 n2,.int .i64 d2] 42
 have B:=(uk w.heap.size w).alloc (ul _) (.cells #[.int .i64 n1,.int .i64 d1,.int .i64 n2,.int .i64 d2] 42)
 generalize hw3:w.alloc (.cells #[.int .i64 n1,.int .i64 d1,.int .i64 n2,.int .i64 d2] 42)=wc at *
 have V_c0:=V.aR.c0
 have V_c1:=V.aR.c1
 have V_c2:=V.aR.c2
 have V_c3:=V.aR.c3
 go_enter Tryz.func53,Tryz.ntmps53
 go_wp2_with (go_at_call 68;first | ((with_reducible refine (P1.out _).mono ?_);rintro e w4 ⟨rfl,hb4⟩;(have V4:=V.keep hb4);(have B4:=B.trans (hb4.mono B.size));(have y0:=V4.aR.c0);(have y1:=V4.aR.c1);(have y2:=V4.aR.c2);(have y3:=V4.aR.c3)) | ((with_reducible refine (P2.out _).mono ?_);rintro e w5 ⟨rfl,hb5⟩;(have B5:=B4.trans (hb5.mono B4.size))))
 go_ret2
 exact ⟨rfl,B5⟩
end
section
namespace M
theorem iw {p:Int} (h:1≤p):∀ k:Nat,1≤eJ p k
 | 0=>by simp [eJ]
 | k+1=>by
  have h1:=iw h k
  have:=Int.mul_le_mul h1 h (by omega) (by omega)
  simpa [eJ] using this
theorem ou {p:Int} (h:1≤p) (k:Nat):eJ p k≤eJ p (k+1):=by
 have h1:=iw h k
 have:=Int.mul_le_mul_of_nonneg_left h (show 0≤eJ p k by omega)
 simp only [eJ]
 omega
theorem ja {p:Int} (h:1≤p) {i j:Nat} (hij:i≤j):eJ p i≤eJ p j:=by
 induction j with
 | zero=>
      obtain rfl:i=0:=by omega
      exact Int.le_refl _
 | succ j ih=>
 rcases Nat.lt_or_ge i (j+1) with q | q
 ·exact Int.le_trans (ih (by omega)) (ou h j)
 obtain rfl:i=j+1:=by omega
 exact Int.le_refl _
def sw (p:Int) (d:Nat):Prop:=eJ p d≤1000000000∧1000000000<eJ p (d+1)
theorem sw.le {p:Int} {d j:Nat} (hp:1≤p) (h:sw p d) (hj:j≤d):eJ p j≤1000000000:=Int.le_trans (ja hp hj) h.1
end M
end
section
open Go.RowKit
theorem lO (p:Int) (k:Nat) (w:World) (p1:1≤p) (hb:M.eJ p k≤4000000000000000000) (hk:k≤1000) :
  Calls Tryz.prog 115 #[.int .i64 p,.int .i64 k] w fun e w'=>e=.returned (.int .i64 (M.eJ p k))∧w=w':=by
 go_enter Tryz.func115,Tryz.ntmps115
 go_wp2
 go_loop [5,7] (fun vo vi=>∃ j:Nat,j≤k∧vi=.int .i64 j∧vo=.int .i64 (M.eJ p j)) (fun _ vi=>(k - (intOf vi).toNat))
 case atStart=>exact ⟨0,by omega,rfl,rfl⟩
 case round=>
 obtain ⟨j,hj,rfl,rfl⟩:=hrel
 by_cases hlt:j<k
 ·have h1:=M.iw p1 j
  have h2:=M.ja p1 (show j+1≤k from hlt)
  have h3:M.eJ p j*p≤4000000000000000000:=Int.le_trans h2 hb
  have h4:0≤M.eJ p j*p:=Int.mul_nonneg (by omega) (by omega)
  go_wp2
  go_round
  case rel=>exact ⟨j+1,by omega,by go_num,rfl⟩
  case measure=>simp [intOf];omega
 obtain rfl:j=k:=by omega
 go_wp2
 go_ret
 exact ⟨rfl,rfl⟩
theorem oy (a b:Int) (w:World) :
  Calls Tryz.prog 91 #[.int .i64 a,.int .i64 b] w fun e w'=>e=.returned (.int .i64 (min a b))∧w=w':=by
 by_cases h:a<b
 ·have h2:min a b=a:=by omega
  rw [h2]
  go_enter Tryz.func91,Tryz.ntmps91
  go_wp2
  go_ret;exact ⟨rfl,rfl⟩
 have h2:min a b=b:=by omega
 rw [h2]
 go_enter Tryz.func91,Tryz.ntmps91
 go_wp2
 go_ret;exact ⟨rfl,rfl⟩
end
end Go.Proofs.YtgfkcoablfjbcaaGreatDoor
