/-
  Joined texts: contracts and plain lemmas.
-/
import Derived.Test.YtgfkcoablfjbcaaGreatY1
import Derived.Test.YtgfkcoablfjbcaaGreatY13
import Derived.Test.YtgfkcoablfjbcaaGreatY2
import Derived.Test.YtgfkcoablfjbcaaGreatY3
import Derived.Deep.DeepCutAuto
import Derived.Deep.RegionWith
set_option linter.unusedSimpArgs false
set_option linter.unusedVariables false
set_option maxRecDepth 100000
set_option maxHeartbeats 8000000
namespace Go.Proofs.YtgfkcoablfjbcaaGreat
section
open Go.RowKit
abbrev gY:=Bool × (Option Addr × Nat × Nat) × Bool × (Option Addr × Nat × Nat)
def gY.val (q:gY):Value:=.agg #[.bool q.1,.slice q.2.1.1 q.2.1.2.1 q.2.1.2.2,.bool q.2.2.1,.slice q.2.2.2.1 q.2.2.2.2.1 q.2.2.2.2.2]
def ER:Rw.Enc gY where
 t:=157
 k:=4
 cells:=fun q=>[.bool q.1,.slice q.2.1.1 q.2.1.2.1 q.2.1.2.2,.bool q.2.2.1,.slice q.2.2.2.1 q.2.2.2.2.1 q.2.2.2.2.2]
 len:=fun _=>rfl
 one:=fun x u hu=>by simp only [List.mem_cons,List.not_mem_nil,or_false] at hu;rcases hu with rfl | rfl | rfl | rfl <;> rfl
 pos:=by decide
theorem wU:(Tryz.prog.info? 157).map (fun i=>(i.zero,i.size,i.bytes))=some (some (.agg #[.bool false,.slice none 0 0,.bool false,.slice none 0 0]),4,64):=by kernel_rfl
theorem wR:Rw.Fits Tryz.prog ER 151:=⟨Tryz.underlying151,by
 obtain ⟨i0,hi,hz0,hz1,hz2⟩:=info_parts wU
 exact ⟨i0,_,hi,hz0,hz1,by omega,rfl⟩⟩
theorem aF.ot {W W':World} {b1 b2:Nat} {v sl:Value} {xs:List gY} {ys:List Int} (h:aF W b1 sl ys) (hv:Rw.Own ER W b2 v xs) (hg:W.grownBy W' v.ownBlock):aF W' b1 sl ys:=by
 refine World.ownsRow.kept h hg ?_
 cases hs:sl.ownBlock with
 | none=>exact Or.inl rfl
 | some k=>exact Or.inr fun e=>fi h hv (by decide) k e.symm hs
theorem aH.grown {W W':World} {g:Nat} {T:TypeId} {xs:Array Value} {r:Option Nat} (h:aH W g T xs) (hg:W.grownBy W' r) (hr:r≠some g):aH W' g T xs:=(hg.block g h.lt (fun e=>hr e.symm)).trans h
def u9 (W:World) (n:Nat) (o:M.Out) (v:Value) (en:Bool):Prop:=match o with
 | .inf=>en=true∧∃ A l c,v=.slice A l c
 | .bad=>en=false∧∃ A l c,v=.slice A l c∧l≤n
 | .val x z=>en=false∧Wh.sz x 1000∧Wh.sz z 1000∧∃ (g cap:Nat) (s:Bool) (av:Option Addr) (lv cv:Nat) (r:Bool) (bv:Option Addr) (mv dv:Nat),v=.slice (some ⟨g,0,none⟩) (n+1) cap∧
   W.cell? ⟨g,n*4,none⟩=some (.bool s)∧W.cell? ⟨g,n*4+1,none⟩=some (.slice av lv cv)∧W.cell? ⟨g,n*4+2,none⟩=some (.bool r)∧W.cell? ⟨g,n*4+3,none⟩=some (.slice bv mv dv)∧
   Hid (s=decide (x<0))∧Hid (r=decide (z<0))∧aF W 0 (.slice av lv cv) (Wh.dig x.natAbs)∧aF W 0 (.slice bv mv dv) (Wh.dig z.natAbs)
theorem nd (a b X Y E:Int) (n:Nat) (w:World) (hg:M.good a b=true) (hX1:-10000≤X) (hX2:X≤10000) (hE1:0≤E) (hE2:E≤20) (hn:n≤5) :
  Calls Tryz.prog 130 #[.agg #[.int .i64 a,.int .i64 b],.agg #[.int .i64 X,.int .i64 Y,.int .i64 E],.int .i64 (n:Int)] w fun e w'=>∃ v,∃ en:Bool,e=.returned (.tuple #[v,.bool en])∧u9 w' n (M.an a b X E n) v en∧Below w.heap.size w w':=by
 have C:=(aH.new w #[.int .i64 a,.int .i64 b] 29).alloc (.cells #[.int .i64 X,.int .i64 Y,.int .i64 E] 57)
 have Q:=(aH.new (w.alloc (.cells #[.int .i64 a,.int .i64 b] 29)) #[.int .i64 X,.int .i64 Y,.int .i64 E] 57)
 rw [wt] at Q
 have B:=((ww w.heap.size w).alloc (xA _) (.cells #[.int .i64 a,.int .i64 b] 29)).alloc (by rw [wt];omega) (.cells #[.int .i64 X,.int .i64 Y,.int .i64 E] 57)
 have hzw:w.heap.size+2≤((w.alloc (.cells #[.int .i64 a,.int .i64 b] 29)).alloc (.cells #[.int .i64 X,.int .i64 Y,.int .i64 E] 57)).heap.size:=by rw [wt,wt];omega
 generalize hw3:(w.alloc (.cells #[.int .i64 a,.int .i64 b] 29)).alloc (.cells #[.int .i64 X,.int .i64 Y,.int .i64 E] 57)=wc at *
 have ⟨q0,q1,q2⟩:=Q.aQ
 have C_c0:=C.box.c0
 have C_c1:=C.box.c1
 by_cases h0:E=0
 ·subst h0
  have hz0:=ws (show M.an a b X 0 n=.inf from rfl)
  go_enter Tryz.func130,Tryz.ntmps130
  go_wp2
  exact bodyPost_ret (v:=.tuple #[.slice none 0 0,.bool true]) (by simp [results,Tryz.results130,go_sem, *]) rfl (⟨_,_,rfl,(by rw [hz0.out];exact ⟨rfl,_,_,_,rfl⟩),B⟩)
 have hE:1≤E:=by omega
 have hEE:1≤E*E∧E*E≤400:=⟨by have:=Int.mul_le_mul hE hE (by omega) (by omega);omega,by have:=Int.mul_le_mul hE2 hE2 (by omega) (by omega);omega⟩
 have hE0:(E == 0)=false:=by rw [beq_eq_false_iff_ne];exact h0
 have hout:=ws (show M.an a b X E n=M.run a b n (.val X (E*E)) from if_neg h0)
 clear h0
 obtain ⟨e1,e2⟩:=hEE
 have P1:=fun W=>vj X (E*E) W (by omega) (by omega) (by omega) (by omega)
 have zX:Wh.sz X 1000:=Wh.aO (Wh.bU (by omega) (by omega)) (by omega)
 have zE:Wh.sz (E*E) 1000:=Wh.aO (Wh.bU (by omega) (by omega)) (by omega)
 have zX:=ws zX
 have zE:=ws zE
 have hb2:-10000≤b∧b≤10000:=⟨(M.aj (M.bI hg)).2.2.1,(M.aj (M.bI hg)).2.2.2⟩
 have ha2:-1000≤a∧a≤1000:=⟨(M.aj (M.bI hg)).1,(M.aj (M.bI hg)).2.1⟩
 obtain ⟨hb1,hb2⟩:=hb2
 obtain ⟨ha1,ha2⟩:=ha2
 have hg:=ws hg
 have PG:=ws fun (x z:Int) (s r:Bool) v v' W k k' (h1:aF W k v (Wh.dig x.natAbs)) (h2:aF W k' v' (Wh.dig z.natAbs)) (hx:Wh.sz x 1000) (hz:Wh.sz z 1000) (hs:s=decide (x<0)) (hr:r=decide (z<0))=>(hs ▸ hr ▸ jp a b x z v v' W k k' h1 h2 hx hz ha1 ha2 hb1 hb2:Calls Tryz.prog 143 #[.agg #[.int .i64 a,.int .i64 b],.agg #[.bool s,v,.bool r,v']] W fun e w'=>∃ sl,e=.returned (.agg #[.bool (decide (Wh.bF a b x z<0)),sl])∧ag w' W.heap.size sl (Wh.bF a b x z)∧Below W.heap.size W w')
 have PD:=ws fun (x z:Int) (s r:Bool) v v' W k k' (h1:aF W k v (Wh.dig x.natAbs)) (h2:aF W k' v' (Wh.dig z.natAbs)) (hx:Wh.sz x 1000) (hz:Wh.sz z 1000) (hs:s=decide (x<0)) (hr:r=decide (z<0))=>(hs ▸ hr ▸ oZ a b x z v v' W k k' hg.out h1 h2 hx hz:Calls Tryz.prog 144 #[.agg #[.int .i64 a,.int .i64 b],.agg #[.bool s,v,.bool r,v']] W fun e w'=>∃ v1 v2,e=.returned (.tuple #[.agg #[.bool (decide (Wh.dbX (M.ay a b) (Wh.bP a b x z) (Wh.bF a b x z)<0)),v1,.bool (decide (Wh.dbZ (M.ay a b) (Wh.bP a b x z) (Wh.bF a b x z)<0)),v2],.bool (Wh.de (M.ay a b) (Wh.bP a b x z) (Wh.bF a b x z))])∧ag w' W.heap.size v1 (Wh.dbX (M.ay a b) (Wh.bP a b x z) (Wh.bF a b x z))∧ag w' W.heap.size v2 (Wh.dbZ (M.ay a b) (Wh.bP a b x z) (Wh.bF a b x z))∧Below W.heap.size W w')
 clear ha1 ha2 hb1 hb2
 have hfld:=fun q A L C W=>iK q A L C W
 have hini:=ws (show M.run a b 0 (.val X (E*E))=.val X (E*E) from rfl)
 generalize hZ:E*E=Z at *
 replace hZ:=ws hZ
 generalize hs1:decide (X<0)=s1 at *
 generalize hs2:decide (Z<0)=s2 at *
 replace hs1:=ws hs1.symm
 replace hs2:=ws hs2.symm
 have P1:=ws P1
 have hQ:=ws Q
 have hZE:=hZ.out
 go_enter Tryz.func130,Tryz.ntmps130
 go_wp2_with (go_at_call 142;(with_reducible refine (P1.out _).mono ?_);rintro e w4 ⟨v4,u4,rfl,ho4,hp4,hb4⟩;obtain ⟨a4,c4,rfl,hm_,hv_⟩:=aF.view ho4;(clear hm_ hv_);obtain ⟨b4,d4,rfl,hm_,hv_⟩:=aF.view hp4;(clear hm_ hv_);(generalize (Wh.dig X.natAbs).length=l4 at *);(generalize (Wh.dig Z.natAbs).length=m4 at *);(replace C:=C.keep hb4);(replace B:=B.trans (hb4.mono B.size));(replace ⟨C_c0,C_c1⟩:=C.b2))
 have hz4:w.heap.size+2≤w4.heap.size:=Nat.le_trans hzw hb4.size
 have L:=Rw.Own.lit1 ER ((s1,(a4,l4,c4),s2,(b4,m4,d4)):gY) w4 (w.heap.size+2) hz4
 have ox:=aF.base (aF.alloc (show aF _ _ _ _ from ho4) (.cells #[.bool s1,.slice a4 l4 c4,.bool s2,.slice b4 m4 d4] 157)) (Nat.zero_le _)
 have oz:=aF.base (aF.alloc (show aF _ _ _ _ from hp4) (.cells #[.bool s1,.slice a4 l4 c4,.bool s2,.slice b4 m4 d4] 157)) (Nat.zero_le _)
 have C2:=C.alloc (.cells #[.bool s1,.slice a4 l4 c4,.bool s2,.slice b4 m4 d4] 157)
 have B2:=B.alloc B.size (.cells #[.bool s1,.slice a4 l4 c4,.bool s2,.slice b4 m4 d4] 157)
 have L:=ws L
 have ox:=ws ox
 have oz:=ws oz
 clear ho4 hp4 C B C_c0 C_c1 q0 q1 q2 Q hQ hb4 P1 hzw hZE
 go_loopw [2,8] (fun vi vl wr=>∃ (k:Nat) (x z:Int) (xs:List gY) (q:gY),k≤n∧vi=.int .i64 ((n - k:Nat):Int)∧Hid (M.run a b k (.val X Z)=.val x z)∧Rw.Own ER wr (w.heap.size+2) vl xs∧Hid (xs.length=k+1)∧Hid (xs[k]?=some q)∧aF wr 0 (.slice q.2.1.1 q.2.1.2.1 q.2.1.2.2) (Wh.dig x.natAbs)∧aF wr 0 (.slice q.2.2.2.1 q.2.2.2.2.1 q.2.2.2.2.2) (Wh.dig z.natAbs)∧Hid (q.1=decide (x<0))∧Hid (q.2.2.1=decide (z<0))∧Wh.sz x 1000∧Wh.sz z 1000∧aH wr w.heap.size 29 #[.int .i64 a,.int .i64 b]∧Below w.heap.size w wr∧w.heap.size+2≤wr.heap.size) (fun vi _ _=>(intOf vi).toNat)
 case atStart=>exact ⟨0,X,Z,[((s1,(a4,l4,c4),s2,(b4,m4,d4)):gY)],((s1,(a4,l4,c4),s2,(b4,m4,d4)):gY),Nat.zero_le _,rfl,hini,L.out,ws rfl,ws rfl,ox.out,oz.out,hs1,hs2,zX.out,zE.out,C2,B2,by rw [wt];omega⟩
 case round=>
 clear L ox oz C2 B2 hini hs1 hs2 zX zE hz4
 obtain ⟨k,x,z,xs,q,hk,rfl,hrun,L,hlen,hq,ox,oz,hs,hr,zx,zz,C,B,hz⟩:=hrel
 obtain ⟨s,⟨av,lv,cv⟩,r,⟨bv,mv,dv⟩⟩:=q
 dsimp only at ox oz hs hr
 rcases L.forms with ⟨rfl,rfl⟩ | ⟨g,cap,rfl,hg1,hg2,hcp1,hcp2⟩
 ·exact absurd hlen.out (by simp)
 have hcl:=fun i u (hu:(ER.cells (s,(av,lv,cv),r,(bv,mv,dv)))[i]?=some u) (hi:i<4)=>Rw.Own.cellAt rfl L (k*4+i) u ((Rw.flat_get ER xs k i _ hq.out hi).trans hu)
 have h_c0:wr.cell? ⟨g,k*4,none⟩=some (.bool s):=(hcl 0 _ rfl (by omega)).1
 have h_c1:wr.cell? ⟨g,k*4+1,none⟩=some (.slice av lv cv):=(hcl 1 _ rfl (by omega)).1
 have h_c2:wr.cell? ⟨g,k*4+2,none⟩=some (.bool r):=(hcl 2 _ rfl (by omega)).1
 have h_c3:wr.cell? ⟨g,k*4+3,none⟩=some (.slice bv mv dv):=(hcl 3 _ rfl (by omega)).1
 clear hcl
 have hlen1:=hlen.out
 rw [hlen1] at hcp1 L ⊢
 have ox:=ws ox
 have oz:=ws oz
 have zx:=ws zx
 have zz:=ws zz
 have L:=ws L
 have C_c0:=C.box.c0
 have C_c1:=C.box.c1
 clear hlen1
 by_cases hlt:k<n
 ·obtain ⟨j,hj⟩:∃ j:Nat,n - k=j+1:=⟨n - k - 1,by omega⟩
  have hj2:=ws (show n - (k+1)=j by omega)
  have hjb:(j:Int)≤4:=by omega
  rw [hj]
  clear hj
  have PG1:=ws fun v v' W i j h1 h2=>PG.out x z s r v v' W i j h1 h2 zx.out zz.out hs.out hr.out
  have PD1:=ws fun v v' W i j h1 h2=>PD.out x z s r v v' W i j h1 h2 zx.out zz.out hs.out hr.out
  have hnx:M.run a b (k+1) (.val X Z)=M.nx a b (.val x z):=by show M.nx a b (M.run a b k (.val X Z))=_;rw [hrun.out]
  unfold M.nx at hnx
  dsimp only at hnx
  clear PG PD hs hr
  have hrok:=fun h=>Wh.jZ (Wh.jH (D:=M.ay a b) (F:=Wh.bP a b x z) (G:=Wh.bF a b x z) h)
  have hXN:Wh.de (M.ay a b) (Wh.bP a b x z) (Wh.bF a b x z)=true→Wh.dbX (M.ay a b) (Wh.bP a b x z) (Wh.bF a b x z)=Wh.dbN (M.ay a b) (Wh.bP a b x z) (Wh.bF a b x z)∧Wh.dbZ (M.ay a b) (Wh.bP a b x z) (Wh.bF a b x z)=Wh.dbD (M.ay a b) (Wh.bP a b x z) (Wh.bF a b x z):=fun h=>by unfold Wh.dbX Wh.dbZ;rw [if_pos h,if_pos h];exact ⟨rfl,rfl⟩
  generalize Wh.dbX (M.ay a b) (Wh.bP a b x z) (Wh.bF a b x z)=x' at *
  generalize Wh.dbZ (M.ay a b) (Wh.bP a b x z) (Wh.bF a b x z)=z' at *
  generalize Wh.dbN (M.ay a b) (Wh.bP a b x z) (Wh.bF a b x z)=nn at *
  generalize Wh.dbD (M.ay a b) (Wh.bP a b x z) (Wh.bF a b x z)=dd at *
  generalize Wh.de (M.ay a b) (Wh.bP a b x z) (Wh.bF a b x z)=ok at *
  have hG0:=@Wh.eN (Wh.bF a b x z)
  generalize Wh.bF a b x z=G at *
  generalize decide (G<0)=sg at *
  have N:=aH.new wr #[.bool s,.slice av lv cv,.bool r,.slice bv mv dv] 157
  have C3:=C.alloc (.cells #[.bool s,.slice av lv cv,.bool r,.slice bv mv dv] 157)
  have ox3:=ws (aF.alloc ox.out (.cells #[.bool s,.slice av lv cv,.bool r,.slice bv mv dv] 157))
  have oz3:=ws (aF.alloc oz.out (.cells #[.bool s,.slice av lv cv,.bool r,.slice bv mv dv] 157))
  have L3:=ws (Rw.Own.alloc L.out (.cells #[.bool s,.slice av lv cv,.bool r,.slice bv mv dv] 157))
  have B3:=B.alloc B.size (.cells #[.bool s,.slice av lv cv,.bool r,.slice bv mv dv] 157)
  have C3_c0:=C3.box.c0
  have C3_c1:=C3.box.c1
  have N_c0:=N.aM.c0
  have N_c1:=N.aM.c1
  have N_c2:=N.aM.c2
  have N_c3:=N.aM.c3
  by_cases hG:G=0
  ·rw [if_pos hG] at hnx
   have hfin:=ws (M.lQ hnx n (by omega))
   have hl0:=hG0.2 hG
   clear hnx hG hG0 hrok hXN PD1
   generalize hlg:(Wh.dig G.natAbs).length=lg at *
   subst hl0
   replace hlg:=ws hlg
   go_wp2_with (go_at_call 143;(with_reducible refine (PG1.out _ _ _ _ _ ox3.out oz3.out).mono ?_);rintro e w4 ⟨v4,rfl,ho4,hb4⟩;obtain ⟨a4,c4,rfl,hm_,hv_⟩:=aF.view ho4;(clear hm_ hv_);(rw [hlg.out] at ho4 ⊢);(replace C3:=C3.keep hb4);(replace N:=N.keep hb4);(replace B3:=B3.trans (hb4.mono B3.size));(replace ⟨C3_c0,C3_c1⟩:=C3.b2);(replace ⟨N_c0,N_c1,N_c2,N_c3⟩:=N.b4))
   exact bodyPost_ret (v:=.tuple #[.slice (some ⟨g,0,none⟩) (k+1) cap,.bool true]) (by simp [results,Tryz.results130,go_sem, *]) rfl (⟨_,_,rfl,(by rw [hout.out,hfin.out];exact ⟨rfl,_,_,_,rfl⟩),B3⟩)
  rw [if_neg hG] at hnx
  have hl0:¬ (Wh.dig G.natAbs).length=0:=fun h=>hG (hG0.1 h)
  have hlq:(((Wh.dig G.natAbs).length:Int) == 0)=false:=by rw [beq_eq_false_iff_ne];omega
  clear hG hG0
  cases ok with
  | false=>
   have hfin:=ws (M.lP hnx n (by omega))
   clear hnx hrok hXN
   generalize decide (x'<0)=s' at *
   generalize decide (z'<0)=r' at *
   go_wp2_with (first
    | (go_at_call 143;(with_reducible refine (PG1.out _ _ _ _ _ ox3.out oz3.out).mono ?_);rintro e w4 ⟨v4,rfl,ho4,hb4⟩;obtain ⟨a4,c4,rfl,hm_,hv_⟩:=aF.view ho4;(clear hm_ hv_ ho4);(generalize (Wh.dig G.natAbs).length=lg at *);(replace L3:=ws (Rw.Own.below L3.out hb4));(replace C3:=C3.keep hb4);(replace N:=N.keep hb4);(replace ox3:=kO ox3 hb4);(replace oz3:=kO oz3 hb4);(replace B3:=B3.trans (hb4.mono B3.size));(replace ⟨C3_c0,C3_c1⟩:=C3.b2);(replace ⟨N_c0,N_c1,N_c2,N_c3⟩:=N.b4))
    | (go_at_call 144;(with_reducible refine (PD1.out _ _ _ _ _ ox3.out oz3.out).mono ?_);rintro e w5 ⟨v5,u5,rfl,ho5,hp5,hb5⟩;(replace C3:=C3.keep hb5);(replace N:=N.keep hb5);(replace ox3:=kO ox3 hb5);(replace oz3:=kO oz3 hb5);(replace B3:=B3.trans (hb5.mono B3.size));(replace L3:=ws (Rw.Own.below L3.out hb5));obtain ⟨a5,c5,rfl,hm_,hv_⟩:=aF.view ho5;(clear hm_ hv_);obtain ⟨b5,d5,rfl,hm_,hv_⟩:=aF.view hp5;(clear hm_ hv_);(have on:=ws (aF.alloc (show aF _ _ _ _ from ho5) (.cells #[.bool s',.slice a5 (Wh.dig x'.natAbs).length c5,.bool r',.slice b5 (Wh.dig z'.natAbs).length d5] 157)));(have om:=ws (aF.alloc (show aF _ _ _ _ from hp5) (.cells #[.bool s',.slice a5 (Wh.dig x'.natAbs).length c5,.bool r',.slice b5 (Wh.dig z'.natAbs).length d5] 157)));(clear ho5 hp5);(generalize (Wh.dig x'.natAbs).length=l5 at *);(generalize (Wh.dig z'.natAbs).length=m5 at *);(replace L3:=ws (Rw.Own.alloc L3.out (.cells #[.bool s',.slice a5 l5 c5,.bool r',.slice b5 m5 d5] 157)));(have M_:=aH.new w5 #[.bool s',.slice a5 l5 c5,.bool r',.slice b5 m5 d5] 157);(have b_:=bA w5 (.cells #[.bool s',.slice a5 l5 c5,.bool r',.slice b5 m5 d5] 157));(replace C3:=C3.keep b_);(replace N:=N.keep b_);(replace ox3:=kO ox3 b_);(replace oz3:=kO oz3 b_);(replace B3:=B3.trans (b_.mono B3.size));(clear b_);(replace ⟨C3_c0,C3_c1⟩:=C3.b2);(replace ⟨N_c0,N_c1,N_c2,N_c3⟩:=N.b4);(replace ⟨M__c0,M__c1,M__c2,M__c3⟩:=M_.b4)))
   exact bodyPost_ret (v:=.tuple #[.slice (some ⟨g,0,none⟩) (k+1) cap,.bool false]) (by simp [results,Tryz.results130,go_sem, *]) rfl (⟨_,_,rfl,(by rw [hout.out,hfin.out];exact ⟨rfl,_,_,_,rfl,by omega⟩),B3⟩)
  | true=>
  rw [if_pos rfl] at hnx
  obtain ⟨hxn,hzn⟩:=hXN rfl
  obtain ⟨zn,zd⟩:=hrok rfl
  subst hxn hzn
  clear hXN hrok
  have zn:=ws zn
  have zd:=ws zd
  have hnx:=ws hnx
  generalize hs5:decide (x'<0)=s' at *
  generalize hr5:decide (z'<0)=r' at *
  replace hs5:=ws hs5.symm
  replace hr5:=ws hr5.symm
  clear hrun zx zz
  go_wp2_with (first
   | (go_at_call 143;(with_reducible refine (PG1.out _ _ _ _ _ ox3.out oz3.out).mono ?_);rintro e w4 ⟨v4,rfl,ho4,hb4⟩;obtain ⟨a4,c4,rfl,hm_,hv_⟩:=aF.view ho4;(clear hm_ hv_ ho4);(generalize (Wh.dig G.natAbs).length=lg at *);(replace L3:=ws (Rw.Own.below L3.out hb4));(replace C3:=C3.keep hb4);(replace N:=N.keep hb4);(replace ox3:=kO ox3 hb4);(replace oz3:=kO oz3 hb4);(replace B3:=B3.trans (hb4.mono B3.size));(replace ⟨C3_c0,C3_c1⟩:=C3.b2);(replace ⟨N_c0,N_c1,N_c2,N_c3⟩:=N.b4))
   | (go_at_call 144;(with_reducible refine (PD1.out _ _ _ _ _ ox3.out oz3.out).mono ?_);rintro e w5 ⟨v5,u5,rfl,ho5,hp5,hb5⟩;(replace C3:=C3.keep hb5);(replace N:=N.keep hb5);(replace ox3:=kO ox3 hb5);(replace oz3:=kO oz3 hb5);(replace B3:=B3.trans (hb5.mono B3.size));(replace L3:=ws (Rw.Own.below L3.out hb5));obtain ⟨a5,c5,rfl,hm_,hv_⟩:=aF.view ho5;(clear hm_ hv_);obtain ⟨b5,d5,rfl,hm_,hv_⟩:=aF.view hp5;(clear hm_ hv_);(have on:=ws (aF.alloc (show aF _ _ _ _ from ho5) (.cells #[.bool s',.slice a5 (Wh.dig x'.natAbs).length c5,.bool r',.slice b5 (Wh.dig z'.natAbs).length d5] 157)));(have om:=ws (aF.alloc (show aF _ _ _ _ from hp5) (.cells #[.bool s',.slice a5 (Wh.dig x'.natAbs).length c5,.bool r',.slice b5 (Wh.dig z'.natAbs).length d5] 157)));(clear ho5 hp5);(generalize (Wh.dig x'.natAbs).length=l5 at *);(generalize (Wh.dig z'.natAbs).length=m5 at *);(replace L3:=ws (Rw.Own.alloc L3.out (.cells #[.bool s',.slice a5 l5 c5,.bool r',.slice b5 m5 d5] 157)));(have M_:=aH.new w5 #[.bool s',.slice a5 l5 c5,.bool r',.slice b5 m5 d5] 157);(have b_:=bA w5 (.cells #[.bool s',.slice a5 l5 c5,.bool r',.slice b5 m5 d5] 157));(replace C3:=C3.keep b_);(replace N:=N.keep b_);(replace ox3:=kO ox3 b_);(replace oz3:=kO oz3 b_);(replace B3:=B3.trans (b_.mono B3.size));(clear b_);(replace ⟨C3_c0,C3_c1⟩:=C3.b2);(replace ⟨N_c0,N_c1,N_c2,N_c3⟩:=N.b4);(replace ⟨M__c0,M__c1,M__c2,M__c3⟩:=M_.b4))
   | (at_builtin;refine Rw.wX wR (w.heap.size+2) [((s',(a5,l5,c5),r',(b5,m5,d5)):gY)] xs _ ⟨w5.heap.size+1,0,none⟩ 1 1 (by rfl) (by rfl) (.tmp 50) (.tmp 52) (by rfl) (by rfl) (by rfl) (Rw.From.lit ER _ ((s',(a5,l5,c5),r',(b5,m5,d5)):gY) (w5.heap.size+1) (wt _ _)) (by have:=Rw.Own.alloc L3.out (.cells #[.bool s',.slice a5 l5 c5,.bool r',.slice b5 m5 d5] 157);exact this) (by have h1_:=hb4.size;have h2_:=hb5.size;(try simp only [wt] at h1_ h2_ ⊢);omega) (by rw [hlen.out];simp;omega) ?_;intro v6 w6 hown6 hg6 hbl6;(have C6:=aH.grown (C3.alloc (.cells #[.bool s',.slice a5 l5 c5,.bool r',.slice b5 m5 d5] 157)) hg6 (fun e=>by have e2:g=w.heap.size:=Option.some.inj e;omega));(have on6:=ws (aF.ot (aF.alloc on.out (.cells #[.bool s',.slice a5 l5 c5,.bool r',.slice b5 m5 d5] 157)) (Rw.Own.alloc L3.out (.cells #[.bool s',.slice a5 l5 c5,.bool r',.slice b5 m5 d5] 157)) hg6));(have om6:=ws (aF.ot (aF.alloc om.out (.cells #[.bool s',.slice a5 l5 c5,.bool r',.slice b5 m5 d5] 157)) (Rw.Own.alloc L3.out (.cells #[.bool s',.slice a5 l5 c5,.bool r',.slice b5 m5 d5] 157)) hg6));(have B6:=Below.grown (B3.alloc B3.size (.cells #[.bool s',.slice a5 l5 c5,.bool r',.slice b5 m5 d5] 157)) hg6 (B3.alloc B3.size (.cells #[.bool s',.slice a5 l5 c5,.bool r',.slice b5 m5 d5] 157)).size (fun k_ hk_=>by have e2:g=k_:=Option.some.inj hk_;omega));(have hown6:=ws hown6);(have hz6:=hg6.size);(have hz7:=hb4.size);(have hz8:=hb5.size)))
  go_roundw
  case rel=>exact ⟨k+1,x',z',xs ++ [((s',(a5,l5,c5),r',(b5,m5,d5)):gY)],((s',(a5,l5,c5),r',(b5,m5,d5)):gY),by omega,(by first | (rw [hj2.out];done) | (rw [hj2.out];go_num)),hnx,hown6.out,ws (by rw [List.length_append,hlen.out];rfl),ws (by rw [List.getElem?_append_right (by rw [hlen.out];omega),hlen.out,Nat.sub_self];rfl),aF.base on6.out (Nat.zero_le _),aF.base om6.out (Nat.zero_le _),hs5,hr5,zn.out,zd.out,C6,B6,by (try simp only [wt] at hz6 hz7 hz8);omega⟩
  case measure=>simp [intOf] <;> omega
 obtain rfl:k=n:=by omega
 rw [Nat.sub_self]
 go_wp2
 exact bodyPost_ret (v:=.tuple #[.slice (some ⟨g,0,none⟩) (k+1) cap,.bool false]) (by simp [results,Tryz.results130,go_sem, *]) rfl (⟨_,_,rfl,(by rw [hout.out,hrun.out];exact ⟨rfl,zx.out,zz.out,g,cap,s,av,lv,cv,r,bv,mv,dv,rfl,h_c0,h_c1,h_c2,h_c3,hs,hr,ox.out,oz.out⟩),B⟩)
noncomputable def frq (n d:Int):Bool:=dy (b9 n d) (bT n d)
theorem fx (a b:Int) (w:World) (h1:-4000000000000000000≤a) (h2:a≤4000000000000000000) (h3:-4000000000000000000≤b) (h4:b≤4000000000000000000) :
  Calls Tryz.prog 83 #[.int .i64 (a.natAbs:Int),.int .i64 (b.natAbs:Int)] w fun e w'=>e=.returned (.int .i64 (M.gcd a b))∧w=w':=by
 rw [show M.gcd a b=M.gcd a.natAbs b.natAbs from by simp [M.gcd,Int.gcd]]
 exact dD _ _ _ (by omega) (by omega) (by omega) (by omega)
theorem rv (n d:Int) (w:World) (h1:-4000000000000000000≤n) (h2:n≤4000000000000000000) (h3:-4000000000000000000≤d) (h4:d≤4000000000000000000) (h0:d≠0) :
  Calls Tryz.prog 107 #[.int .i64 n,.int .i64 d] w fun e w'=>e=.returned (.tuple #[.agg #[.int .i64 (M.pick (frq (n) (d)) (b9 (n) (d))),.int .i64 (M.pick (frq (n) (d)) (bT (n) (d)))],.bool (frq (n) (d))]:Value)∧Below w.heap.size w w':=by
 have g1:=kq (a:=n) h0
 have g2:=rz (a:=n) h0
 have t1:=eD (a:=n) (d:=M.gcd n d) h1 h2 (by omega)
 have t2:=eD (a:=d) (d:=M.gcd n d) h3 h4 (by omega)
 have E:=fun w=>jM (b9 n d) (bT n d) w
 unfold frq
 by_cases hn:d<0
 ·rw [eU hn,eT hn] at E ⊢
  cases hok:dy (-n.tdiv (M.gcd n d)) (-d.tdiv (M.gcd n d)) <;> simp only [hok] at E <;> have E:=ws E
  all_goals
   have w1:=IntWalk.i64_in (-n.tdiv (M.gcd n d)) (by omega)
   have w2:=IntWalk.i64_in (-d.tdiv (M.gcd n d)) (by omega)
   have hg0:¬ -M.gcd n d=0:=by omega
   go_enter Tryz.func107,Tryz.ntmps107
   go_wp2_with (first | (go_at_call 84;refine (dA _ _ (by omega) (by omega)).mono ?_;rintro e w' ⟨rfl,rfl⟩) | (go_at_call 83;refine (fx n d _ h1 h2 h3 h4).mono ?_;rintro e w' ⟨rfl,rfl⟩))
   go_region
   all_goals
    clear w1 w2
    go_wp2_with (go_at_call 61;refine (E.out _).mono ?_;rintro e w' ⟨rfl,hb⟩;have hz_:=hb.size;(try simp only [wt,aP,World.heap_drewN,aJ] at hz_);have hs0_:w.heap.size<w'.heap.size:=(by omega);have hk0_:=fun o=>(fw hb).1 (w.heap.size) o (by (try simp only [wt,aP,World.heap_drewN,aJ]);omega);have hl0_:=fun o=>(fw hb).2.1 (w.heap.size) o (by (try simp only [wt,aP,World.heap_drewN,aJ]);omega);have hs1_:w.heap.size+1<w'.heap.size:=(by omega);have hk1_:=fun o=>(fw hb).1 (w.heap.size+1) o (by (try simp only [wt,aP,World.heap_drewN,aJ]);omega);have hl1_:=fun o=>(fw hb).2.1 (w.heap.size+1) o (by (try simp only [wt,aP,World.heap_drewN,aJ]);omega))
    first
     | (refine bodyPost_ret (v:=.tuple #[.agg #[.int .i64 0,.int .i64 0],.bool false]) ?_ rfl ?_;(· (simp [results,Tryz.results107,go_sem, *];done));(· (refine ⟨?_,(by repeat (first | exact ww _ _ | refine aR ?_ _ | refine aS ?_ (by assumption) | refine Below.drew ?_ | refine wu ?_ (by first | exact xA _ | exact Nat.le_add_right _ _ | (simp <;> omega)) _ | refine aL ?_ _))⟩;(simp [M.gy];done))))
     | (refine bodyPost_ret (v:=.tuple #[.agg #[.int .i64 (-n.tdiv (M.gcd n d)),.int .i64 (-d.tdiv (M.gcd n d))],.bool true]) ?_ rfl ?_;(· (simp [results,Tryz.results107,go_sem, *];done));(· (refine ⟨?_,(by repeat (first | exact ww _ _ | refine aR ?_ _ | refine aS ?_ (by assumption) | refine Below.drew ?_ | refine wu ?_ (by first | exact xA _ | exact Nat.le_add_right _ _ | (simp <;> omega)) _ | refine aL ?_ _))⟩;(simp [M.fU];done))))
 rw [dH (by omega),dG (by omega)] at E ⊢
 cases hok:dy (n.tdiv (M.gcd n d)) (d.tdiv (M.gcd n d)) <;> simp only [hok] at E <;> have E:=ws E
 all_goals
  have w1:=IntWalk.i64_in (n.tdiv (M.gcd n d)) (by omega)
  have w2:=IntWalk.i64_in (d.tdiv (M.gcd n d)) (by omega)
  have hg0:¬ M.gcd n d=0:=by omega
  go_enter Tryz.func107,Tryz.ntmps107
  go_wp2_with (first | (go_at_call 84;refine (dA _ _ (by omega) (by omega)).mono ?_;rintro e w' ⟨rfl,rfl⟩) | (go_at_call 83;refine (fx n d _ h1 h2 h3 h4).mono ?_;rintro e w' ⟨rfl,rfl⟩))
  go_region
  all_goals
   clear w1 w2
   go_wp2_with (go_at_call 61;refine (E.out _).mono ?_;rintro e w' ⟨rfl,hb⟩;have hz_:=hb.size;(try simp only [wt,aP,World.heap_drewN,aJ] at hz_);have hs0_:w.heap.size<w'.heap.size:=(by omega);have hk0_:=fun o=>(fw hb).1 (w.heap.size) o (by (try simp only [wt,aP,World.heap_drewN,aJ]);omega);have hl0_:=fun o=>(fw hb).2.1 (w.heap.size) o (by (try simp only [wt,aP,World.heap_drewN,aJ]);omega);have hs1_:w.heap.size+1<w'.heap.size:=(by omega);have hk1_:=fun o=>(fw hb).1 (w.heap.size+1) o (by (try simp only [wt,aP,World.heap_drewN,aJ]);omega);have hl1_:=fun o=>(fw hb).2.1 (w.heap.size+1) o (by (try simp only [wt,aP,World.heap_drewN,aJ]);omega))
   first
    | (refine bodyPost_ret (v:=.tuple #[.agg #[.int .i64 0,.int .i64 0],.bool false]) ?_ rfl ?_;(· (simp [results,Tryz.results107,go_sem, *];done));(· (refine ⟨?_,(by repeat (first | exact ww _ _ | refine aR ?_ _ | refine aS ?_ (by assumption) | refine Below.drew ?_ | refine wu ?_ (by first | exact xA _ | exact Nat.le_add_right _ _ | (simp <;> omega)) _ | refine aL ?_ _))⟩;(simp [M.gy];done))))
    | (refine bodyPost_ret (v:=.tuple #[.agg #[.int .i64 (n.tdiv (M.gcd n d)),.int .i64 (d.tdiv (M.gcd n d))],.bool true]) ?_ rfl ?_;(· (simp [results,Tryz.results107,go_sem, *];done));(· (refine ⟨?_,(by repeat (first | exact ww _ _ | refine aR ?_ _ | refine aS ?_ (by assumption) | refine Below.drew ?_ | refine wu ?_ (by first | exact xA _ | exact Nat.le_add_right _ _ | (simp <;> omega)) _ | refine aL ?_ _))⟩;(simp [M.fU];done))))
namespace M
noncomputable def fmk (n d:Int):Option (Int × Int):=if frq n d then some (b9 n d,bT n d) else none
def fN (r:Option (Int × Int)):Int:=(r.getD (0,0)).1
def fD (r:Option (Int × Int)):Int:=(r.getD (0,0)).2
theorem vO (n d:Int):(.tuple #[.agg #[.int .i64 (M.pick (frq (n) (d)) (b9 (n) (d))),.int .i64 (M.pick (frq (n) (d)) (bT (n) (d)))],.bool (frq (n) (d))]:Value)=.tuple #[.agg #[.int .i64 (fN (fmk n d)),.int .i64 (fD (fmk n d))],.bool (fmk n d).isSome]:=by
 unfold fmk
 cases h:frq n d <;> simp [M.gy,M.fU,fN,fD]
theorem pH {n d:Int} (h:dy n d=true):-1000000000≤n∧n≤1000000000∧1≤d∧d≤1000000000:=by
 unfold dy at h
 simp only [Bool.and_eq_true] at h
 have h1:=M.fC h.1.1
 have h2:=M.fC h.1.2
 omega
end M
theorem mM (n d:Int) (w:World) (h1:-4000000000000000000≤n) (h2:n≤4000000000000000000) (h3:-4000000000000000000≤d) (h4:d≤4000000000000000000) (h0:d≠0) :
  Calls Tryz.prog 107 #[.int .i64 n,.int .i64 d] w fun e w'=>e=.returned (.tuple #[.agg #[.int .i64 (M.fN (M.fmk n d)),.int .i64 (M.fD (M.fmk n d))],.bool (M.fmk n d).isSome])∧Below w.heap.size w w':=by
 rw [←M.vO]
 exact rv n d w h1 h2 h3 h4 h0
theorem tq (n:Int) (w:World) :
  Calls Tryz.prog 68 #[.int .i64 n] w fun e w'=>e=.returned (.agg #[.int .i64 n,.int .i64 1])∧Below w.heap.size w w':=by
 go_enter Tryz.func68,Tryz.ntmps68
 go_wp2
 exact bodyPost_ret (v:=.agg #[.int .i64 n,.int .i64 1]) (by simp [results,Tryz.results68,go_sem, *]) rfl (⟨rfl,(by repeat (first | exact ww _ _ | refine aR ?_ _ | refine aS ?_ (by assumption) | refine Below.drew ?_ | refine wu ?_ (by first | exact xA _ | exact Nat.le_add_right _ _ | (simp <;> omega)) _ | refine aL ?_ _))⟩)
namespace M
noncomputable def pn (a:Int):Int:=fN (fmk a 4096)
noncomputable def pd (a:Int):Int:=fD (fmk a 4096)
def aN (lo hi:Int):Bool:=decide (lo≤hi) && decide (-409600000≤lo) && decide (hi≤409600000)
theorem bq {lo hi:Int} (h:aN lo hi=true):lo≤hi∧-409600000≤lo∧hi≤409600000:=by
 unfold aN at h
 simp only [Bool.and_eq_true,decide_eq_true_eq] at h
 exact ⟨h.1.1,h.1.2,h.2⟩
theorem pI (a:Int):∃ g q n:Int,M.gcd a 4096=g∧1≤g∧g≤4096∧4096=g*q∧1≤q∧q≤4096∧a=n*g:=by
 have h1:(M.gcd a 4096) ∣ 4096:=Int.gcd_dvd_right ..
 have h2:(M.gcd a 4096) ∣ a:=Int.gcd_dvd_left ..
 have h3:=kq (a:=a) (b:=4096) (by decide)
 obtain ⟨q,hq⟩:=h1
 obtain ⟨n,hn⟩:=h2
 generalize M.gcd a 4096=g at *
 have hq1:1≤q:=by
  rcases Int.lt_or_le q 1 with h | h
  ·have:=Int.mul_nonpos_of_nonneg_of_nonpos (a:=g) (b:=q) (by omega) (by omega)
   omega
  exact h
 have hg:g≤4096:=Int.le_of_dvd (by decide) ⟨q,hq⟩
 have hq2:q≤4096:=Int.le_of_dvd (by decide) ⟨g,by rw [Int.mul_comm];exact hq⟩
 exact ⟨g,q,n,rfl,by omega,hg,hq,hq1,hq2,by rw [hn,Int.mul_comm]⟩
theorem kp {a g q n:Int} (hg:M.gcd a 4096=g) (h1:1≤g) (hq:4096=g*q) (hn:a=n*g):fmk a 4096=if dy n q then some (n,q) else none:=by
 have e1:b9 a 4096=n:=by rw [dH (by omega),hg,hn,Int.mul_tdiv_cancel _ (by omega)]
 have e2:bT a 4096=q:=by rw [dG (by omega),hg,hq,Int.mul_tdiv_cancel_left _ (by omega)]
 unfold fmk frq
 rw [e1,e2]
theorem ni {a:Int} (h:(fmk a 4096).isSome=true):dy (pn a) (pd a)=true∧1≤pd a∧pd a≤4096∧(4096:Int) % pd a=0∧pn a*(4096 / pd a)=a∧1≤4096 / pd a∧4096 / pd a≤4096∧-1000000000≤pn a∧pn a≤1000000000:=by
 obtain ⟨g,q,n,hg,h1,h2,hq,h3,h4,hn⟩:=pI a
 have hf:=kp hg h1 hq hn
 unfold pn pd
 rw [hf] at h ⊢
 split at h
 ·rename_i hok
  have hb:=pH hok
  rw [if_pos hok]
  show dy n q=true∧_
  have hdiv:(4096:Int) / q=g:=by rw [hq];exact Int.mul_ediv_cancel _ (by omega)
  refine ⟨hok,h3,h4,?_,?_,?_,?_,hb.1,hb.2.1⟩
  ·show (4096:Int) % q=0
   rw [hq];exact Int.mul_emod_left _ _
  ·show n*(4096 / q)=a
   rw [hdiv,hn]
  ·show 1≤(4096:Int) / q
   omega
  show (4096:Int) / q≤4096
  omega
 cases h
theorem bJ {a:Int} (h1:-409600000≤a) (h2:a≤409600000):(fmk a 4096).isSome=true:=by
 obtain ⟨g,q,n,hg,hg1,hg2,hq,h3,h4,hn⟩:=pI a
 rw [kp hg hg1 hq hn]
 have hnb:-1000000000≤n∧n≤1000000000:=by
  constructor
  ·rcases Int.lt_or_le n (-1000000000) with h | h
   ·have:n*g≤n*1:=Int.mul_le_mul_of_nonpos_left (by omega) hg1
    omega
   exact h
  rcases Int.lt_or_le 1000000000 n with h | h
  ·have:n*1≤n*g:=Int.mul_le_mul_of_nonneg_left hg1 (by omega)
   omega
  exact h
 have hgcd:M.gcd n q=1:=by
  have e1:M.gcd (n*g) (q*g)=M.gcd n q*g:=by
   unfold M.gcd
   rw [Int.gcd_mul_right]
   have:(g.natAbs:Int)=g:=by omega
   rw [Int.natCast_mul,this]
  rw [←hn,Int.mul_comm q g,←hq,hg] at e1
  have:=Int.eq_of_mul_eq_mul_right (a:=g) (b:=1) (c:=M.gcd n q) (by omega) (by omega)
  exact this.symm
 have hok:dy n q=true:=by
  unfold dy M.ins
  rw [hgcd]
  simp only [Bool.and_eq_true,decide_eq_true_eq]
  exact ⟨⟨by omega,hnb⟩,rfl⟩
 rw [if_pos hok]
 rfl
theorem vM {a:Int} (h:(fmk a 4096).isSome=true):-4096000000000≤a∧a≤4096000000000:=by
 obtain ⟨-,-,-,-,h5,h6,h7,h8,h9⟩:=ni h
 generalize 4096 / pd a=g at *
 have:=aK (x:=pn a) (y:=g) (m:=1000000000) (n:=4096) (by omega) (by omega) (by omega) (by omega)
 omega
theorem pE {a b:Int} (hb:0<b) (h:a.tmod b<0):a.tdiv b - 1=a / b:=by
 have h1:=Int.mul_tdiv_add_tmod a b
 have h2:=Int.lt_tmod_of_pos a hb
 exact ((Int.ediv_emod_unique (r:=a.tmod b+b) hb).2 ⟨by rw [Int.mul_sub];omega,by omega,by omega⟩ |>.1).symm
theorem pD {a b:Int} (hb:0<b) (h:¬ a.tmod b<0):a.tdiv b=a / b:=by
 have h1:=Int.mul_tdiv_add_tmod a b
 have h2:=Int.tmod_lt_of_pos a hb
 exact ((Int.ediv_emod_unique hb).2 ⟨by omega,by omega,h2⟩ |>.1).symm
end M
theorem eP (a b:Int) (w:World) (h1:-4000000000000000000≤a) (h2:a≤4000000000000000000) (hb:0<b) (hb2:b≤4000000000000000000) :
  Calls Tryz.prog 120 #[.int .i64 a,.int .i64 b] w fun e w'=>e=.returned (.int .i64 (a / b))∧w=w':=by
 have t1:=eD (a:=a) (d:=b) h1 h2 (by omega)
 have m1:=Int.tmod_lt_of_pos a hb
 have m2:=Int.lt_tmod_of_pos a hb
 have hf:=M.pD (a:=a) hb
 have ht:=M.pE (a:=a) hb
 have hb0:¬ b=0:=by omega
 by_cases h:a.tmod b<0
 ·have ht2:=ws (ht h)
  clear hf ht
  go_enter Tryz.func120,Tryz.ntmps120
  go_wp2
  go_ret
  exact ⟨by first | rfl | (rw [←ht2.out];rfl),rfl⟩
 have hf2:=ws (hf h)
 clear ht hf
 go_enter Tryz.func120,Tryz.ntmps120
 go_wp2
 go_ret
 exact ⟨by first | rfl | (rw [←hf2.out];rfl),rfl⟩
theorem jL (a b:Int) (w:World) (h1:-4000000000000000000≤a) (h2:a≤4000000000000000000) (hb:0<b) (hb2:b≤4000000000000000000) :
  Calls Tryz.prog 93 #[.int .i64 a,.int .i64 b] w fun e w'=>e=.returned (.int .i64 (a / b))∧w=w':=by
 have t1:=eD (a:=a) (d:=b) h1 h2 (by omega)
 have m1:=Int.tmod_lt_of_pos a hb
 have m2:=Int.lt_tmod_of_pos a hb
 have hf:=M.pD (a:=a) hb
 have ht:=M.pE (a:=a) hb
 have hb0:¬ b=0:=by omega
 have hb1:(b == 0)=false:=by rw [beq_eq_false_iff_ne];exact hb0
 by_cases h:a.tmod b<0
 ·have ht2:=ws (ht h)
  clear hf ht
  go_enter Tryz.func93,Tryz.ntmps93
  go_wp2
  go_ret
  exact ⟨by first | rfl | (rw [←ht2.out];rfl),rfl⟩
 have hf2:=ws (hf h)
 clear ht hf
 go_enter Tryz.func93,Tryz.ntmps93
 go_wp2
 go_ret
 exact ⟨by first | rfl | (rw [←hf2.out];rfl),rfl⟩
theorem dK {a b k:Int} (h1:-k≤a) (h2:a≤k) (hb:0<b) (hk:0≤k):-k≤a / b∧a / b≤k:=by
 have e1:=Int.mul_ediv_add_emod a b
 have e2:=Int.emod_nonneg a (by omega:b≠0)
 have e3:=Int.emod_lt_of_pos a hb
 constructor
 ·rcases Int.lt_or_le (a / b) (-k) with h | h
  ·have:b*(a / b)≤b*(-k - 1):=Int.mul_le_mul_of_nonneg_left (by omega) (by omega)
   have h4:b*(-k - 1)≤1*(-k - 1):=Int.mul_le_mul_of_nonpos_right (by omega) (by omega)
   have h5:b*(-k - 1)=b*(-k) - b:=by rw [Int.mul_sub,Int.mul_one]
   have h6:b*(-k)≤1*(-k):=Int.mul_le_mul_of_nonpos_right (by omega) (by omega)
   omega
  exact h
 rcases Int.lt_or_le k (a / b) with h | h
 ·have h4:b*(k+1)≤b*(a / b):=Int.mul_le_mul_of_nonneg_left (by omega) (by omega)
  have h5:1*(k+1)≤b*(k+1):=Int.mul_le_mul_of_nonneg_right (by omega) (by omega)
  omega
 exact h
theorem sY (a b:Int) (w:World) (h1:-4000000000000000000≤a) (h2:a≤4000000000000000000) (hb:0<b) (hb2:b≤4000000000000000000) :
  Calls Tryz.prog 94 #[.int .i64 a,.int .i64 b] w fun e w'=>e=.returned (.int .i64 (-(-a / b)))∧w=w':=by
 have P:=fun W=>jL (-a) b W (by omega) (by omega) hb hb2
 have hq:=dK (a:=-a) (b:=b) (k:=4000000000000000000) (by omega) (by omega) hb (by omega)
 obtain ⟨q1,q2⟩:=hq
 generalize -a / b=q at *
 replace P:=ws P
 go_enter Tryz.func94,Tryz.ntmps94
 go_wp2_with (go_at_call 93;(with_reducible refine (P.out _).mono ?_);rintro e w4 ⟨rfl,rfl⟩)
 go_ret
 exact ⟨rfl,rfl⟩
theorem lc (lo hi:Int) (w:World) :
  Calls Tryz.prog 119 #[.agg #[.int .i64 lo,.int .i64 hi]] w fun e w'=>e=.returned (.bool (M.aN lo hi))∧Below w.heap.size w w':=by
 unfold M.aN
 by_cases h1:lo≤hi
 ·by_cases h2:-409600000≤lo
  ·by_cases h3:hi≤409600000
   all_goals
    go_enter Tryz.func119,Tryz.ntmps119
    go_wp2
    go_ret;exact ⟨cj (by simp [h1,h2,h3]),(by repeat (first | exact ww _ _ | refine aR ?_ _ | refine aS ?_ (by assumption) | refine Below.drew ?_ | refine wu ?_ (by first | exact xA _ | exact Nat.le_add_right _ _ | (simp <;> omega)) _ | refine aL ?_ _))⟩
  go_enter Tryz.func119,Tryz.ntmps119
  go_wp2
  go_ret;exact ⟨cj (by simp [h1,h2] <;> omega),(by repeat (first | exact ww _ _ | refine aR ?_ _ | refine aS ?_ (by assumption) | refine Below.drew ?_ | refine wu ?_ (by first | exact xA _ | exact Nat.le_add_right _ _ | (simp <;> omega)) _ | refine aL ?_ _))⟩
 go_enter Tryz.func119,Tryz.ntmps119
 go_wp2
 go_ret;exact ⟨cj (by simp [h1] <;> omega),(by repeat (first | exact ww _ _ | refine aR ?_ _ | refine aS ?_ (by assumption) | refine Below.drew ?_ | refine wu ?_ (by first | exact xA _ | exact Nat.le_add_right _ _ | (simp <;> omega)) _ | refine aL ?_ _))⟩
theorem vU (a b c d:Int) (w:World) (h1:-4000000000000000000≤a) (h2:a≤4000000000000000000) (h3:-4000000000000000000≤b) (h4:b≤4000000000000000000) (h5:-4000000000000000000≤c) (h6:c≤4000000000000000000) (h7:-4000000000000000000≤d) (h8:d≤4000000000000000000) :
  Calls Tryz.prog 100 #[.agg #[.int .i64 a,.int .i64 b],.agg #[.int .i64 c,.int .i64 d]] w fun e w'=>e=.returned (.agg #[.int .i64 (a+c),.int .i64 (b+d)])∧Below w.heap.size w w':=by
 go_enter Tryz.func100,Tryz.ntmps100
 go_wp2
 exact bodyPost_ret (v:=.agg #[.int .i64 (a+c),.int .i64 (b+d)]) (by simp [results,Tryz.results100,go_sem, *]) rfl (⟨rfl,(by repeat (first | exact ww _ _ | refine aR ?_ _ | refine aS ?_ (by assumption) | refine Below.drew ?_ | refine wu ?_ (by first | exact xA _ | exact Nat.le_add_right _ _ | (simp <;> omega)) _ | refine aL ?_ _))⟩)
theorem uJ (a b c d:Int) (w:World) (h1:-4000000000000000000≤a) (h2:a≤4000000000000000000) (h3:-4000000000000000000≤b) (h4:b≤4000000000000000000) (h5:-4000000000000000000≤c) (h6:c≤4000000000000000000) (h7:-4000000000000000000≤d) (h8:d≤4000000000000000000) :
  Calls Tryz.prog 101 #[.agg #[.int .i64 a,.int .i64 b],.agg #[.int .i64 c,.int .i64 d]] w fun e w'=>e=.returned (.agg #[.int .i64 (a - d),.int .i64 (b - c)])∧Below w.heap.size w w':=by
 go_enter Tryz.func101,Tryz.ntmps101
 go_wp2
 exact bodyPost_ret (v:=.agg #[.int .i64 (a - d),.int .i64 (b - c)]) (by simp [results,Tryz.results101,go_sem, *]) rfl (⟨rfl,(by repeat (first | exact ww _ _ | refine aR ?_ _ | refine aS ?_ (by assumption) | refine Below.drew ?_ | refine wu ?_ (by first | exact xA _ | exact Nat.le_add_right _ _ | (simp <;> omega)) _ | refine aL ?_ _))⟩)
theorem rX (a b c d:Int) (w:World) :
  Calls Tryz.prog 124 #[.agg #[.int .i64 a,.int .i64 b],.agg #[.int .i64 c,.int .i64 d]] w fun e w'=>e=.returned (.agg #[.int .i64 (max a c),.int .i64 (min b d)])∧Below w.heap.size w w':=by
 go_enter Tryz.func124,Tryz.ntmps124
 go_wp2
 exact bodyPost_ret (v:=.agg #[.int .i64 (max a c),.int .i64 (min b d)]) (by simp [results,Tryz.results124,go_sem, *]) rfl (⟨rfl,(by repeat (first | exact ww _ _ | refine aR ?_ _ | refine aS ?_ (by assumption) | refine Below.drew ?_ | refine wu ?_ (by first | exact xA _ | exact Nat.le_add_right _ _ | (simp <;> omega)) _ | refine aL ?_ _))⟩)
namespace M
def cU (a b c d:Int):Int:=min (a*c) (min (a*d) (min (b*c) (b*d)))
def cQ (a b c d:Int):Int:=max (a*c) (max (a*d) (max (b*c) (b*d)))
theorem ut {a b c d:Int} (h1:-1000000000≤a) (h2:a≤1000000000) (h3:-1000000000≤b) (h4:b≤1000000000) (h5:-1000000000≤c) (h6:c≤1000000000) (h7:-1000000000≤d) (h8:d≤1000000000) :
  -1000000000000000000≤cU a b c d∧cU a b c d≤1000000000000000000∧-1000000000000000000≤cQ a b c d∧cQ a b c d≤1000000000000000000:=by
 have q1:=aK (x:=a) (y:=c) (m:=1000000000) (n:=1000000000) h1 h2 h5 h6
 have q2:=aK (x:=a) (y:=d) (m:=1000000000) (n:=1000000000) h1 h2 h7 h8
 have q3:=aK (x:=b) (y:=c) (m:=1000000000) (n:=1000000000) h3 h4 h5 h6
 have q4:=aK (x:=b) (y:=d) (m:=1000000000) (n:=1000000000) h3 h4 h7 h8
 unfold cU cQ
 omega
end M
theorem tI {P:Program} (ts:Array TypeId) (t:TypeId) (p q r s:Int) (W:World):Sem.run P (Builtin.min_ ts t #[.int .i64 p,.int .i64 q,.int .i64 r,.int .i64 s]) W=.ok (.int .i64 (min p (min q (min r s)))) W:=by
 simp [Builtin.min_,Builtin.min2]
 repeat' split
 all_goals omega
theorem tH {P:Program} (ts:Array TypeId) (t:TypeId) (p q r s:Int) (W:World):Sem.run P (Builtin.max_ ts t #[.int .i64 p,.int .i64 q,.int .i64 r,.int .i64 s]) W=.ok (.int .i64 (max p (max q (max r s)))) W:=by
 simp [Builtin.max_,Builtin.max2]
 repeat' split
 all_goals omega
theorem ub (a b c d:Int) (w:World) (h1:-1000000000≤a) (h2:a≤1000000000) (h3:-1000000000≤b) (h4:b≤1000000000) (h5:-1000000000≤c) (h6:c≤1000000000) (h7:-1000000000≤d) (h8:d≤1000000000) :
  Calls Tryz.prog 99 #[.agg #[.int .i64 a,.int .i64 b],.agg #[.int .i64 c,.int .i64 d]] w fun e w'=>e=.returned (.agg #[.int .i64 (M.cU a b c d / 4096),.int .i64 (-(-M.cQ a b c d / 4096))])∧Below w.heap.size w w':=by
 have q1:=M.aK (x:=a) (y:=c) (m:=1000000000) (n:=1000000000) h1 h2 h5 h6
 have q2:=M.aK (x:=a) (y:=d) (m:=1000000000) (n:=1000000000) h1 h2 h7 h8
 have q3:=M.aK (x:=b) (y:=c) (m:=1000000000) (n:=1000000000) h3 h4 h5 h6
 have q4:=M.aK (x:=b) (y:=d) (m:=1000000000) (n:=1000000000) h3 h4 h7 h8
 obtain ⟨t1,t2,t3,t4⟩:=M.ut h1 h2 h3 h4 h5 h6 h7 h8
 have hmi:M.cU a b c d=min (a*c) (min (a*d) (min (b*c) (b*d))):=rfl
 have hma:M.cQ a b c d=max (a*c) (max (a*d) (max (b*c) (b*d))):=rfl
 have P1:=fun W=>eP (M.cU a b c d) 4096 W (by omega) (by omega) (by omega) (by omega)
 have P2:=fun W=>eP (-M.cQ a b c d) 4096 W (by omega) (by omega) (by omega) (by omega)
 have f2:=dK (a:=-M.cQ a b c d) (b:=4096) (k:=1000000000000000000) (by omega) (by omega) (by omega) (by omega)
 obtain ⟨f3,f4⟩:=f2
 replace P1:=ws P1
 replace P2:=ws P2
 generalize M.cU a b c d=mi at *
 generalize M.cQ a b c d=ma at *
 have S:=((aH.new w #[.int .i64 a,.int .i64 b] 68).alloc (.cells #[.int .i64 c,.int .i64 d] 68)).alloc (.cells #[.int .i64 0,.int .i64 0] 68)
 have T:=(aH.new (w.alloc (.cells #[.int .i64 a,.int .i64 b] 68)) #[.int .i64 c,.int .i64 d] 68).alloc (.cells #[.int .i64 0,.int .i64 0] 68)
 rw [wt] at T
 have R:=aH.new ((w.alloc (.cells #[.int .i64 a,.int .i64 b] 68)).alloc (.cells #[.int .i64 c,.int .i64 d] 68)) #[.int .i64 0,.int .i64 0] 68
 rw [cO] at R
 have B:=(((ww w.heap.size w).alloc (xA _) (.cells #[.int .i64 a,.int .i64 b] 68)).alloc (by rw [wt];omega) (.cells #[.int .i64 c,.int .i64 d] 68)).alloc (by rw [cO];omega) (.cells #[.int .i64 0,.int .i64 0] 68)
 generalize hw3:((w.alloc (.cells #[.int .i64 a,.int .i64 b] 68)).alloc (.cells #[.int .i64 c,.int .i64 d] 68)).alloc (.cells #[.int .i64 0,.int .i64 0] 68)=wc at *
 replace hmi:=ws hmi
 replace hma:=ws hma
 go_enter Tryz.func99,Tryz.ntmps99
 go_wp2
 go_upto_region 1 with fail
 refine Rg.bG 24 [.is (.pointer (some ⟨w.heap.size,0,none⟩)),.is (.int .i64 a),.is (.pointer (some ⟨w.heap.size+1,0,none⟩)),.is (.int .i64 c),.is (.int .i64 (a*c)),.is (.pointer (some ⟨w.heap.size,0,none⟩)),.is (.int .i64 a),.is (.pointer (some ⟨w.heap.size+1,1,none⟩)),.is (.int .i64 d),.is (.int .i64 (a*d)),.is (.pointer (some ⟨w.heap.size,1,none⟩)),.is (.int .i64 b),.is (.pointer (some ⟨w.heap.size+1,0,none⟩)),.is (.int .i64 c),.is (.int .i64 (b*c)),.is (.pointer (some ⟨w.heap.size,1,none⟩)),.is (.int .i64 b),.is (.pointer (some ⟨w.heap.size+1,1,none⟩)),.is (.int .i64 d),.is (.int .i64 (b*d)),.is (.int .i64 (a*c)),.is (.int .i64 (a*d)),.is (.int .i64 (b*c)),.is (.int .i64 (b*d))] (by kernel_rfl) (by kernel_rfl) (by kernel_rfl) ⟨?_,?_,?_,?_,?_,?_,?_,?_,?_,?_,?_,?_,?_,?_,?_,?_,?_,?_,?_,?_,?_,?_,?_,?_,trivial⟩ ?_
 ·intro _ ac_ w_ hB hr
  have e2:ac_.tmps[2]?=some (.pointer (some ⟨w.heap.size,0,none⟩)):=hr 2 (by decide)
  exact Rg.aG rfl (by go_simp)
 ·intro _ ac_ w_ hB hr
  have e9:=Rg.ev1 (hr 9 (by decide))
  have k0:=aE hB S.box.c0
  exact Rg.aG rfl (by go_simp)
 ·intro _ ac_ w_ hB hr
  have e3:ac_.tmps[3]?=some (.pointer (some ⟨w.heap.size+1,0,none⟩)):=hr 3 (by decide)
  exact Rg.aG rfl (by go_simp)
 ·intro _ ac_ w_ hB hr
  have e11:=Rg.ev1 (hr 11 (by decide))
  have k0:=aE hB T.box.c0
  exact Rg.aG rfl (by go_simp)
 ·intro _ ac_ w_ hB hr
  have e10:=Rg.ev1 (hr 10 (by decide))
  have e12:=Rg.ev1 (hr 12 (by decide))
  exact Rg.aG rfl (by go_simp <;> exact Rg.wo (by omega))
 ·intro _ ac_ w_ hB hr
  have e2:ac_.tmps[2]?=some (.pointer (some ⟨w.heap.size,0,none⟩)):=hr 2 (by decide)
  exact Rg.aG rfl (by go_simp)
 ·intro _ ac_ w_ hB hr
  have e14:=Rg.ev1 (hr 14 (by decide))
  have k0:=aE hB S.box.c0
  exact Rg.aG rfl (by go_simp)
 ·intro _ ac_ w_ hB hr
  have e3:ac_.tmps[3]?=some (.pointer (some ⟨w.heap.size+1,0,none⟩)):=hr 3 (by decide)
  exact Rg.aG rfl (by go_simp)
 ·intro _ ac_ w_ hB hr
  have e16:=Rg.ev1 (hr 16 (by decide))
  have k1:=aE hB T.box.c1
  exact Rg.aG rfl (by go_simp)
 ·intro _ ac_ w_ hB hr
  have e15:=Rg.ev1 (hr 15 (by decide))
  have e17:=Rg.ev1 (hr 17 (by decide))
  exact Rg.aG rfl (by go_simp <;> exact Rg.wo (by omega))
 ·intro _ ac_ w_ hB hr
  have e2:ac_.tmps[2]?=some (.pointer (some ⟨w.heap.size,0,none⟩)):=hr 2 (by decide)
  exact Rg.aG rfl (by go_simp)
 ·intro _ ac_ w_ hB hr
  have e19:=Rg.ev1 (hr 19 (by decide))
  have k1:=aE hB S.box.c1
  exact Rg.aG rfl (by go_simp)
 ·intro _ ac_ w_ hB hr
  have e3:ac_.tmps[3]?=some (.pointer (some ⟨w.heap.size+1,0,none⟩)):=hr 3 (by decide)
  exact Rg.aG rfl (by go_simp)
 ·intro _ ac_ w_ hB hr
  have e21:=Rg.ev1 (hr 21 (by decide))
  have k0:=aE hB T.box.c0
  exact Rg.aG rfl (by go_simp)
 ·intro _ ac_ w_ hB hr
  have e20:=Rg.ev1 (hr 20 (by decide))
  have e22:=Rg.ev1 (hr 22 (by decide))
  exact Rg.aG rfl (by go_simp <;> exact Rg.wo (by omega))
 ·intro _ ac_ w_ hB hr
  have e2:ac_.tmps[2]?=some (.pointer (some ⟨w.heap.size,0,none⟩)):=hr 2 (by decide)
  exact Rg.aG rfl (by go_simp)
 ·intro _ ac_ w_ hB hr
  have e24:=Rg.ev1 (hr 24 (by decide))
  have k1:=aE hB S.box.c1
  exact Rg.aG rfl (by go_simp)
 ·intro _ ac_ w_ hB hr
  have e3:ac_.tmps[3]?=some (.pointer (some ⟨w.heap.size+1,0,none⟩)):=hr 3 (by decide)
  exact Rg.aG rfl (by go_simp)
 ·intro _ ac_ w_ hB hr
  have e26:=Rg.ev1 (hr 26 (by decide))
  have k1:=aE hB T.box.c1
  exact Rg.aG rfl (by go_simp)
 ·intro _ ac_ w_ hB hr
  have e25:=Rg.ev1 (hr 25 (by decide))
  have e27:=Rg.ev1 (hr 27 (by decide))
  exact Rg.aG rfl (by go_simp <;> exact Rg.wo (by omega))
 ·intro _ ac_ w_ hB hr
  have e13:=Rg.ev1 (hr 13 (by decide))
  exact Rg.aG rfl (by go_simp)
 ·intro _ ac_ w_ hB hr
  have e18:=Rg.ev1 (hr 18 (by decide))
  exact Rg.aG rfl (by go_simp)
 ·intro _ ac_ w_ hB hr
  have e23:=Rg.ev1 (hr 23 (by decide))
  exact Rg.aG rfl (by go_simp)
 ·intro _ ac_ w_ hB hr
  have e28:=Rg.ev1 (hr 28 (by decide))
  exact Rg.aG rfl (by go_simp)
 intro vals wz hB hv hne
 have v_20:vals 20=.int .i64 (a*c):=hv 20 (by decide)
 have v_21:vals 21=.int .i64 (a*d):=hv 21 (by decide)
 have v_22:vals 22=.int .i64 (b*c):=hv 22 (by decide)
 have v_23:vals 23=.int .i64 (b*d):=hv 23 (by decide)
 simp only [Rg.ak,Rg.fill,Act.put,Nat.reduceAdd]
 clear hv
 simp only [v_20,v_21,v_22,v_23]
 clear v_20 v_21 v_22 v_23
 replace R:=R.keep hB
 have ⟨c0,c1,f0,f1,_⟩:=R.box
 have hw4:=B.trans (hB.mono B.size)
 clear S T hw3 hB B
 generalize a*c=p at *
 generalize a*d=q at *
 generalize b*c=r at *
 generalize b*d=s at *
 unfold Rg.aW
 have P3:=P1.out
 have P4:=P2.out
 rw [hmi.out] at P3
 rw [hma.out] at P4
 replace P3:=ws P3
 replace P4:=ws P4
 rw [hmi.out] at t1 t2
 rw [hma.out] at t3 t4 f3 f4
 clear P1 P2
 have m4:=fun (W:World) ts t=>tI (P:=Tryz.prog) ts t p q r s W
 have x4:=fun (W:World) ts t=>tH (P:=Tryz.prog) ts t p q r s W
 rw [show w.heap.size+2=w.heap.size+1+1 by omega] at c0 c1 f0 f1
 go_wp2_with (go_at_call 120;first | ((with_reducible refine (P3.out _).mono ?_);rintro e w4 ⟨rfl,rfl⟩) | ((with_reducible refine (P4.out _).mono ?_);rintro e w4 ⟨rfl,rfl⟩))
 exact bodyPost_ret (v:=.agg #[.int .i64 (min p (min q (min r s)) / 4096),.int .i64 (-(-max p (max q (max r s)) / 4096))]) (by simp [results,Tryz.results99,go_sem, *]) rfl (⟨by rw [hmi.out,hma.out],(by repeat (first | exact ww _ _ | refine aR ?_ _ | refine aS ?_ (by assumption) | refine Below.drew ?_ | refine wu ?_ (by first | exact xA _ | exact Nat.le_add_right _ _ | (simp <;> omega)) _ | refine aL ?_ _))⟩)
theorem fg (a:Int) (w:World) (h:(M.fmk a 4096).isSome=true) :
  Calls Tryz.prog 106 #[.agg #[.int .i64 (M.pn a),.int .i64 (M.pd a)]] w fun e w'=>e=.returned (.tuple #[.int .i64 a,.bool (M.ins a (-409600000) 409600000)])∧Below w.heap.size w w':=by
 obtain ⟨hok,d1,d2,hm,hp,g1,g2,n1,n2⟩:=M.ni h
 have hfar:=M.vM h
 obtain ⟨r1,r2⟩:=hfar
 have PF:=fun W=>jM (M.pn a) (M.pd a) W
 rw [hok] at PF
 generalize M.pn a=n at *
 generalize M.pd a=d at *
 have hd0:¬ d=0:=by omega
 have ht:(4096:Int).tmod d=0:=by rw [Int.tmod_eq_emod_of_nonneg (by omega)];exact hm
 have hq:(4096:Int).tdiv d=4096 / d:=Int.tdiv_eq_ediv_of_nonneg (by omega)
 have PI:=fun W=>dU a (-409600000) 409600000 W
 replace PF:=ws PF
 replace PI:=ws PI
 clear h hok
 generalize 4096 / d=g at *
 have hq2:=ws hq
 have hp2:=ws hp
 have hw1:=ws (show IntKind.i64.wrap g=g from IntWalk.i64_in _ (by omega))
 have hw2:=ws (show IntKind.i64.wrap (n*g)=a by rw [hp];exact IntWalk.i64_in _ (by omega))
 clear hq hp
 have hm2:=ws hm
 have V:=aH.new w #[.int .i64 n,.int .i64 d] 45
 have B:=(ww w.heap.size w).alloc (xA _) (.cells #[.int .i64 n,.int .i64 d] 45)
 generalize hw3:w.alloc (.cells #[.int .i64 n,.int .i64 d] 45)=wc at *
 have V_c0:=V.box.c0
 have V_c1:=V.box.c1
 go_enter Tryz.func106,Tryz.ntmps106
 go_upto_region 3 with (go_at_call 61;(with_reducible refine (PF.out _).mono ?_);rintro e w4 ⟨rfl,hb4⟩;(replace V:=V.keep hb4);(replace B:=B.trans (hb4.mono B.size));(replace ⟨V_c0,V_c1⟩:=V.b2))
 refine Rg.bG 7 [.is (.pointer (some ⟨w.heap.size,0,none⟩)),.is (.int .i64 n),.is (.pointer (some ⟨w.heap.size,1,none⟩)),.is (.int .i64 d),.is (.int .i64 g),.is (.int .i64 a),.is (.int .i64 a)] (by kernel_rfl) (by kernel_rfl) (by kernel_rfl) ⟨?_,?_,?_,?_,?_,?_,?_,trivial⟩ ?_
 ·intro _ ac_ w_ hB hr
  have e1:ac_.tmps[1]?=some (.pointer (some ⟨w.heap.size,0,none⟩)):=hr 1 (by decide)
  exact Rg.aG rfl (by go_simp)
 ·intro _ ac_ w_ hB hr
  have e14:=Rg.ev1 (hr 14 (by decide))
  have k0:=aE hB V.box.c0
  exact Rg.aG rfl (by go_simp)
 ·intro _ ac_ w_ hB hr
  have e1:ac_.tmps[1]?=some (.pointer (some ⟨w.heap.size,0,none⟩)):=hr 1 (by decide)
  exact Rg.aG rfl (by go_simp)
 ·intro _ ac_ w_ hB hr
  have e16:=Rg.ev1 (hr 16 (by decide))
  have k1:=aE hB V.box.c1
  exact Rg.aG rfl (by go_simp)
 ·intro _ ac_ w_ hB hr
  have e17:=Rg.ev1 (hr 17 (by decide))
  have ec:=Rg.ec ac_
  exact Rg.aG rfl (by go_simp;first | done | (rw [hq2.out];first | done | rw [hw1.out] | (exact ⟨hd0,by rw [hw1.out]⟩)) | (simp only [hq2.out,hw1.out];done) | (simp [hq2.out,hw1.out,hd0];done))
 ·intro _ ac_ w_ hB hr
  have e15:=Rg.ev1 (hr 15 (by decide))
  have e18:=Rg.ev1 (hr 18 (by decide))
  exact Rg.aG rfl (by go_simp;first | done | (rw [hw2.out];done) | exact hw2.out)
 ·intro _ ac_ w_ hB hr
  have e19:=Rg.ev1 (hr 19 (by decide))
  exact Rg.aG rfl (by go_simp)
 intro vals wz hB hv hne
 have v_6:vals 6=.int .i64 a:=hv 6 (by decide)
 simp only [Rg.ak,Rg.fill,Act.put,Nat.reduceAdd]
 clear hv
 simp only [v_6]
 clear v_6
 unfold Rg.aW
 go_wp2_with (go_at_call 47;(with_reducible refine (PI.out _).mono ?_);rintro e w6 ⟨rfl,rfl⟩)
 go_ret2
 exact ⟨rfl,B.trans (hB.mono B.size)⟩
theorem jS (a b:Int) (w:World) (h1:(M.fmk a 4096).isSome=true) (h2:(M.fmk b 4096).isSome=true) :
  Calls Tryz.prog 108 #[.agg #[.int .i64 (M.pn a),.int .i64 (M.pd a),.int .i64 (M.pn b),.int .i64 (M.pd b)]] w fun e w'=>e=.returned (.bool (M.aN a b))∧Below w.heap.size w w':=by
 have P1:=ws fun W=>fg a W h1
 have P2:=ws fun W=>fg b W h2
 have hs:M.aN a b=(M.ins a (-409600000) 409600000 && M.ins b (-409600000) 409600000 && decide (a≤b)):=by
  rw [Bool.eq_iff_iff]
  unfold M.aN M.ins
  simp only [Bool.and_eq_true,decide_eq_true_eq]
  omega
 rw [hs]
 clear hs
 generalize M.pn a=n1 at *
 generalize M.pd a=d1 at *
 generalize M.pn b=n2 at *
 generalize M.pd b=d2 at *
 have V:=aH.new w #[.int .i64 n1,.int .i64 d1,.int .i64 n2,.int .i64 d2] 64
 have B:=(ww w.heap.size w).alloc (xA _) (.cells #[.int .i64 n1,.int .i64 d1,.int .i64 n2,.int .i64 d2] 64)
 generalize hw3:w.alloc (.cells #[.int .i64 n1,.int .i64 d1,.int .i64 n2,.int .i64 d2] 64)=wc at *
 have V_c0:=V.aM.c0
 have V_c1:=V.aM.c1
 have V_c2:=V.aM.c2
 have V_c3:=V.aM.c3
 generalize M.ins a (-409600000) 409600000=i1 at *
 generalize M.ins b (-409600000) 409600000=i2 at *
 by_cases hab:a≤b <;> cases i1 <;> cases i2
 all_goals
  go_enter Tryz.func108,Tryz.ntmps108
  go_wp2_with (go_at_call 106;first | ((with_reducible refine (P1.out _).mono ?_);rintro e w4 ⟨rfl,hb4⟩;(have V4:=V.keep hb4);(have B4:=B.trans (hb4.mono B.size));(have y0:=V4.aM.c0);(have y1:=V4.aM.c1);(have y2:=V4.aM.c2);(have y3:=V4.aM.c3)) | ((with_reducible refine (P2.out _).mono ?_);rintro e w5 ⟨rfl,hb5⟩;(have B5:=B4.trans (hb5.mono B4.size))))
  all_goals
   go_ret
   exact ⟨by first | rfl | (simp [hab];done) | (exact cj (by simp [hab];done)) | (exact cj (by simp <;> omega)),B5⟩
theorem db (a b:Int) (w:World) (h1:(M.fmk a 4096).isSome=true) (h2:(M.fmk b 4096).isSome=true) :
  Calls Tryz.prog 89 #[.agg #[.int .i64 (M.pn a),.int .i64 (M.pd a),.int .i64 (M.pn b),.int .i64 (M.pd b)]] w fun e w'=>e=.returned (.tuple #[.int .i64 a,.int .i64 b])∧Below w.heap.size w w':=by
 have P1:=ws fun W=>fg a W h1
 have P2:=ws fun W=>fg b W h2
 generalize M.pn a=n1 at *
 generalize M.pd a=d1 at *
 generalize M.pn b=n2 at *
 generalize M.pd b=d2 at *
 generalize M.ins a (-409600000) 409600000=i1 at *
 generalize M.ins b (-409600000) 409600000=i2 at *
 have V:=aH.new w #[.int .i64 n1,.int .i64 d1,.int .i64 n2,.int .i64 d2] 64
 have B:=(ww w.heap.size w).alloc (xA _) (.cells #[.int .i64 n1,.int .i64 d1,.int .i64 n2,.int .i64 d2] 64)
 generalize hw3:w.alloc (.cells #[.int .i64 n1,.int .i64 d1,.int .i64 n2,.int .i64 d2] 64)=wc at *
 have V_c0:=V.aM.c0
 have V_c1:=V.aM.c1
 have V_c2:=V.aM.c2
 have V_c3:=V.aM.c3
 go_enter Tryz.func89,Tryz.ntmps89
 go_wp2_with (go_at_call 106;first | ((with_reducible refine (P1.out _).mono ?_);rintro e w4 ⟨rfl,hb4⟩;(have V4:=V.keep hb4);(have B4:=B.trans (hb4.mono B.size));(have y0:=V4.aM.c0);(have y1:=V4.aM.c1);(have y2:=V4.aM.c2);(have y3:=V4.aM.c3)) | ((with_reducible refine (P2.out _).mono ?_);rintro e w5 ⟨rfl,hb5⟩;(have B5:=B4.trans (hb5.mono B4.size))))
 go_ret2
 exact ⟨rfl,B5⟩
end
section
namespace M
theorem jQ {p:Int} (h:1≤p):∀ k:Nat,1≤eQ p k
 | 0=>by simp [eQ]
 | k+1=>by
  have h1:=jQ h k
  have:=Int.mul_le_mul h1 h (by omega) (by omega)
  simpa [eQ] using this
theorem qG {p:Int} (h:1≤p) (k:Nat):eQ p k≤eQ p (k+1):=by
 have h1:=jQ h k
 have:=Int.mul_le_mul_of_nonneg_left h (show 0≤eQ p k by omega)
 simp only [eQ]
 omega
theorem kF {p:Int} (h:1≤p) {i j:Nat} (hij:i≤j):eQ p i≤eQ p j:=by
 induction j with
 | zero=>
      obtain rfl:i=0:=by omega
      exact Int.le_refl _
 | succ j ih=>
 rcases Nat.lt_or_ge i (j+1) with q | q
 ·exact Int.le_trans (ih (by omega)) (qG h j)
 obtain rfl:i=j+1:=by omega
 exact Int.le_refl _
def uh (p:Int) (d:Nat):Prop:=eQ p d≤1000000000∧1000000000<eQ p (d+1)
theorem uh.le {p:Int} {d j:Nat} (hp:1≤p) (h:uh p d) (hj:j≤d):eQ p j≤1000000000:=Int.le_trans (kF hp hj) h.1
end M
end
section
open Go.RowKit
theorem mS (p:Int) (k:Nat) (w:World) (p1:1≤p) (hb:M.eQ p k≤4000000000000000000) (hk:k≤1000) :
  Calls Tryz.prog 138 #[.int .i64 p,.int .i64 k] w fun e w'=>e=.returned (.int .i64 (M.eQ p k))∧w=w':=by
 go_enter Tryz.func138,Tryz.ntmps138
 go_wp2
 go_loop [5,7] (fun vo vi=>∃ j:Nat,j≤k∧vi=.int .i64 j∧vo=.int .i64 (M.eQ p j)) (fun _ vi=>(k - (intOf vi).toNat))
 case atStart=>exact ⟨0,by omega,rfl,rfl⟩
 case round=>
 obtain ⟨j,hj,rfl,rfl⟩:=hrel
 by_cases hlt:j<k
 ·have h1:=M.jQ p1 j
  have h2:=M.kF p1 (show j+1≤k from hlt)
  have h3:M.eQ p j*p≤4000000000000000000:=Int.le_trans h2 hb
  have h4:0≤M.eQ p j*p:=Int.mul_nonneg (by omega) (by omega)
  go_wp2
  go_round
  case rel=>exact ⟨j+1,by omega,by go_num,rfl⟩
  case measure=>simp [intOf];omega
 obtain rfl:j=k:=by omega
 go_wp2
 go_ret
 exact ⟨rfl,rfl⟩
theorem kK (a b:Int) (w:World) :
  Calls Tryz.prog 90 #[.int .i64 a,.int .i64 b] w fun e w'=>e=.returned (.int .i64 (min a b))∧w=w':=by
 by_cases h:a<b
 ·have h2:min a b=a:=by omega
  rw [h2]
  go_enter Tryz.func90,Tryz.ntmps90
  go_wp2
  go_ret;exact ⟨rfl,rfl⟩
 have h2:min a b=b:=by omega
 rw [h2]
 go_enter Tryz.func90,Tryz.ntmps90
 go_wp2
 go_ret;exact ⟨rfl,rfl⟩
end
end Go.Proofs.YtgfkcoablfjbcaaGreat
