/-
  Joined texts: contracts and plain lemmas.
-/
import Derived.Test.YtgfkcoablfjbcaaGreatDoorB1
import Derived.Test.YtgfkcoablfjbcaaGreatDoorB10
set_option linter.unusedSimpArgs false
set_option linter.unusedVariables false
set_option maxRecDepth 100000
set_option maxHeartbeats 8000000
namespace Go.Proofs.YtgfkcoablfjbcaaGreatDoor
section
open Go.RowKit
namespace Wh
def dbN (D F G:Int):Int:=if G<0 then -(F / (dvs D F G:Nat)) else F / (dvs D F G:Nat)
def dbD (D F G:Int):Int:=if G<0 then -(G / (dvs D F G:Nat)) else G / (dvs D F G:Nat)
def dX (D F G:Int):Bool:=decide (G≠0) && cR (dbN D F G) (dbD D F G)
def dbX (D F G:Int):Int:=if dX D F G=true then dbN D F G else 0
def dbZ (D F G:Int):Int:=if dX D F G=true then dbD D F G else 0
theorem kY {z:Int} {n:Nat} (h:sz z n) (d:Nat):sz (z / (d:Int)) (n+1):=by
 unfold sz at *
 rw [Nat.pow_succ]
 have h1:(z / (d:Int)).natAbs≤z.natAbs+1:=by
  rcases Nat.eq_zero_or_pos d with rfl | hd
  ·simp
  have:=Int.natAbs_ediv_le_natAbs z (d:Int)
  omega
 have hp:0<10000 ^ n:=Nat.pow_pos (by decide)
 omega
theorem eG {z:Int}:(dig z.natAbs).length=0 ↔ z=0:=by
 rw [List.length_eq_zero_iff,fO]
 omega
theorem nZ {z:Int} {d:Nat} (hd:1≤d):decide (z / (d:Int)<0)=decide (z<0):=by
 rw [decide_eq_decide]
 constructor
 ·intro h
  rcases Int.lt_or_le z 0 with q | q
  ·exact q
  have:=Int.ediv_nonneg (b:=(d:Int)) q (by omega)
  omega
 intro h
 exact Int.ediv_neg_of_neg_of_pos h (by omega)
end Wh
theorem eo (w:World) (k:Nat):ae w k (.slice none 0 0) 0:=by
 unfold ae
 rw [show Wh.dig (0:Int).natAbs=[] from Wh.fO.2 rfl]
 exact aF.nil _ _
theorem oi (a b x z:Int) (vx vz:Value) (w:World) (bx bz:Nat) (hg:M.good a b=true) (hox:ae w bx vx x) (hoz:ae w bz vz z) (hx:Wh.sz x 1000) (hz:Wh.sz z 1000) :
  Calls Tryz.prog 136 #[.agg #[.int .i64 a,.int .i64 b],.agg #[.bool (decide (x<0)),vx,.bool (decide (z<0)),vz]] w fun e w'=>∃ v1 v2,e=.returned (.tuple #[.agg #[.bool (decide (Wh.dbX (M.ay a b) (Wh.bJ a b x z) (Wh.bD a b x z)<0)),v1,.bool (decide (Wh.dbZ (M.ay a b) (Wh.bJ a b x z) (Wh.bD a b x z)<0)),v2],.bool (Wh.dX (M.ay a b) (Wh.bJ a b x z) (Wh.bD a b x z))])∧ae w' w.heap.size v1 (Wh.dbX (M.ay a b) (Wh.bJ a b x z) (Wh.bD a b x z))∧ae w' w.heap.size v2 (Wh.dbZ (M.ay a b) (Wh.bJ a b x z) (Wh.bD a b x z))∧Below w.heap.size w w':=by
 obtain ⟨ax,cx,rfl,-,-⟩:=aF.view hox
 obtain ⟨az,cz,rfl,-,-⟩:=aF.view hoz
 have hin:=M.bE hg
 obtain ⟨ha1,ha2,hb1,hb2⟩:=M.ah hin
 have hdb:=dr hin
 have hdn:=eT hg
 have PF:=fun v v' W k k' (h1:aF W k v (Wh.dig x.natAbs)) (h2:aF W k' v' (Wh.dig z.natAbs))=>fa a b x z v v' W k k' h1 h2 hx hz ha1 ha2 hb1 hb2
 have PG:=fun v v' W k k' (h1:aF W k v (Wh.dig x.natAbs)) (h2:aF W k' v' (Wh.dig z.natAbs))=>dY a b x z v v' W k k' h1 h2 hx hz ha1 ha2 hb1 hb2
 have PD:=fun v v' W k k' (h1:aF W k v (Wh.dig x.natAbs)) (h2:aF W k' v' (Wh.dig z.natAbs))=>ig a b x z v v' W k k' hg h1 h2 hx hz
 have zF:=Wh.kd hx hz ha1 ha2 hb1 hb2
 have zG:=Wh.kX hx hz ha1 ha2 hb1 hb2
 have hdv:=Wh.qN (Wh.bJ a b x z) (Wh.bD a b x z) hdn
 generalize M.ay a b=D at *
 generalize Wh.bJ a b x z=F at *
 generalize Wh.bD a b x z=G at *
 clear hin hg ha1 ha2 hb1 hb2 hdn hx hz
 obtain ⟨d,hd⟩:∃ d,Hid (Wh.dvs D F G=d):=⟨_,uh rfl⟩
 rw [hd.out] at hdv PD
 have hd1:1≤d:=hdv.1
 have hd2:d≤1000000000000:=by omega
 clear hdv hdb
 have sF:=Wh.aU.2 (Wh.aN zF (show 5000≤9000 by omega))
 have sG:=Wh.aU.2 (Wh.aN zG (show 6000≤9000 by omega))
 have zN:=Wh.kY zF d
 have zE:=Wh.kY zG d
 have sN:=Wh.aU.2 (Wh.aN zN (show 5000+1≤9000 by omega))
 have sE:=Wh.aU.2 (Wh.aN zE (show 6000+1≤9000 by omega))
 have PQ:=fun v W k (h:aF W k v (Wh.dig F.natAbs))=>fh F (d:Int) v W k h sF (by omega) (by omega)
 have PR:=fun v W k (h:aF W k v (Wh.dig G.natAbs))=>fh G (d:Int) v W k h sG (by omega) (by omega)
 generalize hs1:decide (x<0)=s1 at *
 generalize hs2:decide (z<0)=s2 at *
 clear hs1 hs2
 replace hox:=uh (show aF _ _ _ _ from hox)
 replace hoz:=uh (show aF _ _ _ _ from hoz)
 generalize (Wh.dig x.natAbs).length=lx at *
 generalize (Wh.dig z.natAbs).length=lz at *
 have C:=((aH.new w #[.int .i64 a,.int .i64 b] 28).alloc (.cells #[.bool s1,.slice ax lx cx,.bool s2,.slice az lz cz] 120)).alloc (.cells #[.bool false,.slice none 0 0,.bool false,.slice none 0 0] 120)
 have Q:=(aH.new (w.alloc (.cells #[.int .i64 a,.int .i64 b] 28)) #[.bool s1,.slice ax lx cx,.bool s2,.slice az lz cz] 120).alloc (.cells #[.bool false,.slice none 0 0,.bool false,.slice none 0 0] 120)
 rw [ui] at Q
 have R:=aH.new ((w.alloc (.cells #[.int .i64 a,.int .i64 b] 28)).alloc (.cells #[.bool s1,.slice ax lx cx,.bool s2,.slice az lz cz] 120)) #[.bool false,.slice none 0 0,.bool false,.slice none 0 0] 120
 rw [cZ] at R
 have B:=(((uk w.heap.size w).alloc (ul _) (.cells #[.int .i64 a,.int .i64 b] 28)).alloc (by rw [ui];omega) (.cells #[.bool s1,.slice ax lx cx,.bool s2,.slice az lz cz] 120)).alloc (by rw [cZ];omega) (.cells #[.bool false,.slice none 0 0,.bool false,.slice none 0 0] 120)
 have ox:=uh (aF.alloc (aF.alloc (aF.alloc hox.out (.cells #[.int .i64 a,.int .i64 b] 28)) (.cells #[.bool s1,.slice ax lx cx,.bool s2,.slice az lz cz] 120)) (.cells #[.bool false,.slice none 0 0,.bool false,.slice none 0 0] 120))
 have oz:=uh (aF.alloc (aF.alloc (aF.alloc hoz.out (.cells #[.int .i64 a,.int .i64 b] 28)) (.cells #[.bool s1,.slice ax lx cx,.bool s2,.slice az lz cz] 120)) (.cells #[.bool false,.slice none 0 0,.bool false,.slice none 0 0] 120))
 clear hox hoz
 generalize hw3:((w.alloc (.cells #[.int .i64 a,.int .i64 b] 28)).alloc (.cells #[.bool s1,.slice ax lx cx,.bool s2,.slice az lz cz] 120)).alloc (.cells #[.bool false,.slice none 0 0,.bool false,.slice none 0 0] 120)=wc at *
 have C_c0:=C.box.c0
 have C_c1:=C.box.c1
 have Q_c0:=Q.aR.c0
 have Q_c1:=Q.aR.c1
 have Q_c2:=Q.aR.c2
 have Q_c3:=Q.aR.c3
 have R_c0:=R.aR.c0
 have R_c1:=R.aR.c1
 have R_c2:=R.aR.c2
 have R_c3:=R.aR.c3
 have R_f0:=R.aR.f0
 have R_f1:=R.aR.f1
 have R_f2:=R.aR.f2
 have R_f3:=R.aR.f3
 by_cases h0:G=0
 ·subst h0
  have hok:Wh.dX D F 0=false:=by unfold Wh.dX;simp
  have hX:Wh.dbX D F 0=0:=by unfold Wh.dbX;rw [hok];rfl
  have hZ:Wh.dbZ D F 0=0:=by unfold Wh.dbZ;rw [hok];rfl
  rw [hok,hX,hZ]
  have hl0:(Wh.dig (0:Int).natAbs).length=0:=Wh.eG.2 rfl
  have hs0:decide ((0:Int)<0)=false:=rfl
  rw [hs0] at PG ⊢
  clear hok hX hZ hs0 PF PD PQ PR sF sG zN zE sN sE zF zG hd hd1 hd2
  replace PG:=uh PG
  go_enter Tryz.func136,Tryz.ntmps136
  go_wp2_with (go_at_call 135;(with_reducible refine (PG.out _ _ _ _ _ ox.out oz.out).mono ?_);rintro e w4 ⟨v4,rfl,ho4,hb4⟩;(have zb_:=B.size);(replace C:=C.keep hb4);(replace Q:=Q.keep hb4);(replace R:=R.keep hb4);(replace ox:=kO ox hb4);(replace oz:=kO oz hb4);(replace B:=B.trans (hb4.mono B.size));obtain ⟨a4,c4,rfl,hm_,hv_⟩:=aF.view ho4;(clear hm_ hv_);(have og:=uh (aF.base (show aF _ _ _ _ from ho4) zb_));(clear ho4);(clear zb_);(rw [hl0] at og ⊢);(have T:=aH.new w4 #[.bool false,.slice a4 0 c4] 106);(have b_:=bA w4 (.cells #[.bool false,.slice a4 0 c4] 106));(replace C:=C.keep b_);(replace Q:=Q.keep b_);(replace R:=R.keep b_);(replace ox:=kO ox b_);(replace oz:=kO oz b_);(replace og:=kO og b_);(replace B:=B.trans (b_.mono B.size));(clear b_);(replace ⟨C_c0,C_c1⟩:=C.b2);(replace ⟨Q_c0,Q_c1,Q_c2,Q_c3⟩:=Q.b4);(replace ⟨R_c0,R_c1,R_c2,R_c3,R_f0,R_f1,R_f2,R_f3⟩:=R.b4f);(replace ⟨T_c0,T_c1⟩:=T.b2))
  exact bodyPost_ret (v:=.tuple #[.agg #[.bool false,.slice none 0 0,.bool false,.slice none 0 0],.bool false]) (by simp [results,Tryz.results136,go_sem, *]) rfl (⟨_,_,rfl,eo _ _,eo _ _,uj (uj (uj (uj B (by simp <;> omega) _) (by simp <;> omega) _) (by simp <;> omega) _) (by simp <;> omega) _⟩)
 have hlp:¬ (Wh.dig G.natAbs).length=0:=fun h=>h0 (Wh.eG.1 h)
 have hlq:(((Wh.dig G.natAbs).length:Int) == 0)=false:=by rw [beq_eq_false_iff_ne];omega
 have hne:decide (G≠0)=true:=decide_eq_true h0
 have hES:=Wh.nZ (z:=G) hd1
 have PN:=fun v W k (h:aF W k v (Wh.dig (F / (d:Int)).natAbs))=>gX (F / (d:Int)) v W k h (by omega)
 have PE:=fun v W k (h:aF W k v (Wh.dig (G / (d:Int)).natAbs))=>gX (G / (d:Int)) v W k h (by omega)
 have hsN:(Wh.dig (-(F / (d:Int))).natAbs).length≤100000:=by rw [Int.natAbs_neg];omega
 have hsE:(Wh.dig (-(G / (d:Int))).natAbs).length≤100000:=by rw [Int.natAbs_neg];omega
 have PI1:=fun v v' W k k' (h:aF W k v (Wh.dig (F / (d:Int)).natAbs)) (h':aF W k' v' (Wh.dig (G / (d:Int)).natAbs))=>jd (F / (d:Int)) (G / (d:Int)) v v' W k k' h h' (by omega) (by omega)
 have PI2:=fun v v' W k k' (h:aF W k v (Wh.dig (-(F / (d:Int))).natAbs)) (h':aF W k' v' (Wh.dig (-(G / (d:Int))).natAbs))=>jd (-(F / (d:Int))) (-(G / (d:Int))) v v' W k k' h h' hsN hsE
 have eOk:Wh.dX D F G=Wh.cR (if G<0 then -(F / (d:Int)) else F / (d:Int)) (if G<0 then -(G / (d:Int)) else G / (d:Int)):=by unfold Wh.dX Wh.dbN Wh.dbD;rw [hd.out,hne];rfl
 have eX:Wh.dbX D F G=if Wh.dX D F G=true then (if G<0 then -(F / (d:Int)) else F / (d:Int)) else 0:=by unfold Wh.dbX Wh.dbN;rw [hd.out]
 have eZ:Wh.dbZ D F G=if Wh.dX D F G=true then (if G<0 then -(G / (d:Int)) else G / (d:Int)) else 0:=by unfold Wh.dbZ Wh.dbD;rw [hd.out]
 rw [eX,eZ,eOk]
 clear eX eZ eOk hsN hsE hne h0 sF sG zN zE sN sE zF zG
 generalize F / (d:Int)=N at *
 generalize G / (d:Int)=E at *
 generalize F % (d:Int)=rF at *
 generalize G % (d:Int)=rG at *
 generalize decide (F<0)=sF at *
 clear hd
 by_cases hneg:G<0
 ·have hsg:decide (G<0)=true:=decide_eq_true hneg
  rw [hsg] at hES PG
  rw [if_pos hneg,if_pos hneg]
  simp only [hsg,hES] at PR PE PI1
  clear PI1
  generalize hsN:decide (N<0)=sN at *
  replace PG:=uh PG
  replace PF:=uh PF
  replace PD:=uh PD
  replace PQ:=uh PQ
  replace PR:=uh PR
  replace PN:=uh PN
  replace PE:=uh PE
  replace PI2:=uh PI2
  replace hsN:=uh hsN
  replace hES:=uh hES
  clear hneg hsg hd1 hd2
  by_cases hok:Wh.cR (-N) (-E)=true
  ·skip
   rw [hok]
   replace hok:=uh hok
   rw [if_pos rfl,if_pos rfl]
   go_enter Tryz.func136,Tryz.ntmps136
   go_upto_region 8 with (first
    | (go_at_call 135;(with_reducible refine (PG.out _ _ _ _ _ ox.out oz.out).mono ?_);rintro e w4 ⟨v4,rfl,ho4,hb4⟩;(have zb_:=B.size);(replace C:=C.keep hb4);(replace Q:=Q.keep hb4);(replace R:=R.keep hb4);(replace ox:=kO ox hb4);(replace oz:=kO oz hb4);(replace B:=B.trans (hb4.mono B.size));obtain ⟨a4,c4,rfl,hm_,hv_⟩:=aF.view ho4;(clear hm_ hv_);(have og:=uh (aF.base (show aF _ _ _ _ from ho4) zb_));(clear ho4);(generalize (Wh.dig G.natAbs).length=lg at *);(clear zb_);(have T:=aH.new w4 #[.bool true,.slice a4 lg c4] 106);(have b_:=bA w4 (.cells #[.bool true,.slice a4 lg c4] 106));(replace C:=C.keep b_);(replace Q:=Q.keep b_);(replace R:=R.keep b_);(replace ox:=kO ox b_);(replace oz:=kO oz b_);(replace og:=kO og b_);(replace B:=B.trans (b_.mono B.size));(clear b_);(replace ⟨C_c0,C_c1⟩:=C.b2);(replace ⟨Q_c0,Q_c1,Q_c2,Q_c3⟩:=Q.b4);(replace ⟨R_c0,R_c1,R_c2,R_c3,R_f0,R_f1,R_f2,R_f3⟩:=R.b4f);(replace ⟨T_c0,T_c1⟩:=T.b2))
    | (go_at_call 150;(with_reducible refine (PD.out _ _ _ _ _ ox.out oz.out).mono ?_);rintro e w6 ⟨rfl,hb6⟩;(replace C:=C.keep hb6);(replace Q:=Q.keep hb6);(replace R:=R.keep hb6);(replace T:=T.keep hb6);(replace ox:=kO ox hb6);(replace oz:=kO oz hb6);(replace og:=kO og hb6);(replace B:=B.trans (hb6.mono B.size));(replace ⟨C_c0,C_c1⟩:=C.b2);(replace ⟨Q_c0,Q_c1,Q_c2,Q_c3⟩:=Q.b4);(replace ⟨R_c0,R_c1,R_c2,R_c3,R_f0,R_f1,R_f2,R_f3⟩:=R.b4f);(replace ⟨T_c0,T_c1⟩:=T.b2))
    | (go_at_call 152;(with_reducible refine (PF.out _ _ _ _ _ ox.out oz.out).mono ?_);rintro e w7 ⟨v7,rfl,ho7,hb7⟩;(have zb_:=B.size);(replace C:=C.keep hb7);(replace Q:=Q.keep hb7);(replace R:=R.keep hb7);(replace T:=T.keep hb7);(replace ox:=kO ox hb7);(replace oz:=kO oz hb7);(replace og:=kO og hb7);(replace B:=B.trans (hb7.mono B.size));obtain ⟨a7,c7,rfl,hm_,hv_⟩:=aF.view ho7;(clear hm_ hv_);(have of:=uh (aF.base (show aF _ _ _ _ from ho7) zb_));(clear ho7);(generalize (Wh.dig F.natAbs).length=lf at *);(clear zb_);(replace ⟨C_c0,C_c1⟩:=C.b2);(replace ⟨Q_c0,Q_c1,Q_c2,Q_c3⟩:=Q.b4);(replace ⟨R_c0,R_c1,R_c2,R_c3,R_f0,R_f1,R_f2,R_f3⟩:=R.b4f);(replace ⟨T_c0,T_c1⟩:=T.b2))
    | (go_at_call 151;(with_reducible refine (PQ.out _ _ _ of.out).mono ?_);rintro e w8 ⟨v8,rfl,ho8,hb8⟩;(have zb_:=B.size);(replace C:=C.keep hb8);(replace Q:=Q.keep hb8);(replace R:=R.keep hb8);(replace T:=T.keep hb8);(replace ox:=kO ox hb8);(replace oz:=kO oz hb8);(replace og:=kO og hb8);(replace of:=kO of hb8);(replace B:=B.trans (hb8.mono B.size));obtain ⟨a8,c8,rfl,hm_,hv_⟩:=aF.view ho8;(clear hm_ hv_);(have on:=uh (aF.base (show aF _ _ _ _ from ho8) zb_));(clear ho8);(generalize (Wh.dig N.natAbs).length=ln at *);(clear zb_);(have hR8:=uh R.lt);(have U:=aH.new w8 #[.bool sN,.slice a8 ln c8] 106);(have b_:=bA w8 (.cells #[.bool sN,.slice a8 ln c8] 106));(replace C:=C.keep b_);(replace Q:=Q.keep b_);(replace R:=R.keep b_);(replace T:=T.keep b_);(replace ox:=kO ox b_);(replace oz:=kO oz b_);(replace og:=kO og b_);(replace of:=kO of b_);(replace on:=kO on b_);(replace B:=B.trans (b_.mono B.size));(clear b_);(replace ⟨C_c0,C_c1⟩:=C.b2);(replace ⟨Q_c0,Q_c1,Q_c2,Q_c3⟩:=Q.b4);(replace ⟨R_c0,R_c1,R_c2,R_c3,R_f0,R_f1,R_f2,R_f3⟩:=R.b4f);(replace ⟨T_c0,T_c1⟩:=T.b2);(replace ⟨U_c0,U_c1⟩:=U.b2))
    | (go_at_call 151;(with_reducible refine (PR.out _ _ _ og.out).mono ?_);rintro e w9 ⟨v9,rfl,ho9,hb9⟩;(have zb_:=B.size);(replace C:=C.keep hb9);(replace Q:=Q.keep hb9);(replace R:=R.keep hb9);(replace T:=T.keep hb9);(replace U:=U.keep hb9);(replace ox:=kO ox hb9);(replace oz:=kO oz hb9);(replace og:=kO og hb9);(replace of:=kO of hb9);(replace on:=kO on hb9);(replace B:=B.trans (hb9.mono B.size));obtain ⟨a9,c9,rfl,hm_,hv_⟩:=aF.view ho9;(clear hm_ hv_);(have oe:=uh (aF.base (show aF _ _ _ _ from ho9) zb_));(clear ho9);(generalize (Wh.dig E.natAbs).length=le at *);(clear zb_);(have V:=aH.new w9 #[.bool true,.slice a9 le c9] 106);(have b_:=bA w9 (.cells #[.bool true,.slice a9 le c9] 106));(replace C:=C.keep b_);(replace Q:=Q.keep b_);(replace R:=R.keep b_);(replace T:=T.keep b_);(replace U:=U.keep b_);(replace ox:=kO ox b_);(replace oz:=kO oz b_);(replace og:=kO og b_);(replace of:=kO of b_);(replace on:=kO on b_);(replace oe:=kO oe b_);(replace B:=B.trans (b_.mono B.size));(clear b_);(replace ⟨C_c0,C_c1⟩:=C.b2);(replace ⟨Q_c0,Q_c1,Q_c2,Q_c3⟩:=Q.b4);(replace ⟨R_c0,R_c1,R_c2,R_c3,R_f0,R_f1,R_f2,R_f3⟩:=R.b4f);(replace ⟨T_c0,T_c1⟩:=T.b2);(replace ⟨U_c0,U_c1,U_f0,U_f1⟩:=U.b2f);(replace ⟨V_c0,V_c1,V_f0,V_f1⟩:=V.b2f)))
   have hUV:w8.heap.size<w9.heap.size:=Nat.lt_of_lt_of_le (by rw [ui];exact Nat.lt_succ_self _) hb9.size
   generalize w9.alloc (.cells #[.bool true,.slice a9 le c9] 106)=wd at *
   refine Rg.bF 4 [.is (.agg #[.bool sN,.slice a8 ln c8]),.at (aJ (wd.heap.size) (-N)),.is (.agg #[.bool true,.slice a9 le c9]),.at (aJ (wd.heap.size) (-E))] (by kernel_rfl) (by kernel_rfl) (by kernel_rfl) ⟨?_,?_,?_,?_,fun h_=>absurd h_ (by decide),fun h_=>absurd h_ (by decide),trivial⟩ ?_
   ·intro _ ac_ w_ hB hr
    have e8:ac_.tmps[8]?=some (.pointer (some ⟨w8.heap.size,0,none⟩)):=hr 8 (by decide)
    have k0:=aE hB U.box.c0
    have k1:=aE hB U.box.c1
    exact Rg.aG rfl (by go_simp)
   ·intro _ ac_ w_ hB hr
    have e40:=Rg.ev1 (hr 40 (by decide))
    have ef:=Rg.ef ac_
    refine Rg.aX rfl (by go_simp;exact ⟨rfl,rfl⟩) ?_
    refine (PN.out _ _ _ (aF.below on.out hB)).mono ?_
    rintro e w5 ⟨sl5,rfl,ho5,hb5⟩
    exact ⟨_,rfl,aJ.at ho5 (by have:=hB.size;omega),hb5⟩
   ·intro _ ac_ w_ hB hr
    have e10:ac_.tmps[10]?=some (.pointer (some ⟨w9.heap.size,0,none⟩)):=hr 10 (by decide)
    have k0:=aE hB V.box.c0
    have k1:=aE hB V.box.c1
    exact Rg.aG rfl (by go_simp)
   ·intro _ ac_ w_ hB hr
    have e42:=Rg.ev1 (hr 42 (by decide))
    have ef:=Rg.ef ac_
    refine Rg.aX rfl (by go_simp;exact ⟨rfl,rfl⟩) ?_
    refine (PE.out _ _ _ (aF.below oe.out hB)).mono ?_
    rintro e w5 ⟨sl5,rfl,ho5,hb5⟩
    exact ⟨_,rfl,aJ.at ho5 (by have:=hB.size;omega),hb5⟩
   intro vals wz hB hv hne
   have n41:(Rg.Val.at (aJ (wd.heap.size) (-N))).ok (vals 1) wz:=hv 1 (by decide)
   have n43:(Rg.Val.at (aJ (wd.heap.size) (-E))).ok (vals 3) wz:=hv 3 (by decide)
   simp only [Rg.am,Rg.fill,Act.put,Nat.reduceAdd]
   clear hv
   obtain ⟨s41,a41,l41,c41,hs41,v_1,o41⟩:=(Rg.aZ n41).view
   obtain ⟨s43,a43,l43,c43,hs43,v_3,o43⟩:=(Rg.aZ n43).view
   simp only [v_1,v_3]
   clear v_1 v_3
   have U2:=U.keep hB
   have V2:=V.keep hB
   have R2:=R.keep hB
   have dUV:w8.heap.size≠w9.heap.size:=by omega
   have dVU:=dUV.symm
   have V3:aH ((wz.setCell ⟨w8.heap.size,0,none⟩ (.bool s41)).setCell ⟨w8.heap.size,1,none⟩ (.slice a41 l41 c41)) w9.heap.size 106 #[.bool true,.slice a9 le c9]:=(V2.other dVU _).other dVU _
   have V4:=aH.set2 V3 (.bool s43) (.slice a43 l43 c43)
   have U4:aH ((((wz.setCell ⟨w8.heap.size,0,none⟩ (.bool s41)).setCell ⟨w8.heap.size,1,none⟩ (.slice a41 l41 c41)).setCell ⟨w9.heap.size,0,none⟩ (.bool s43)).setCell ⟨w9.heap.size,1,none⟩ (.slice a43 l43 c43)) w8.heap.size 106 #[.bool s41,.slice a41 l41 c41]:=((aH.set2 U2 (.bool s41) (.slice a41 l41 c41)).other dUV _).other dUV _
   have oN:=uh (aF.bC (aF.bC (aF.base o41 B.size) U2 (by decide) (.bool s41) (.slice a41 l41 c41)) V3 (by decide) (.bool s43) (.slice a43 l43 c43))
   have oE:=uh (aF.bC (aF.bC (aF.base o43 B.size) U2 (by decide) (.bool s41) (.slice a41 l41 c41)) V3 (by decide) (.bool s43) (.slice a43 l43 c43))
   have hw8:w.heap.size+1+1<w8.heap.size:=hR8.out
   have hd9:w.heap.size+1+1≠w9.heap.size:=by omega
   have hd8:w.heap.size+1+1≠w8.heap.size:=by omega
   have R4:aH ((((wz.setCell ⟨w8.heap.size,0,none⟩ (.bool s41)).setCell ⟨w8.heap.size,1,none⟩ (.slice a41 l41 c41)).setCell ⟨w9.heap.size,0,none⟩ (.bool s43)).setCell ⟨w9.heap.size,1,none⟩ (.slice a43 l43 c43)) (w.heap.size+1+1) 120 #[.bool false,.slice none 0 0,.bool false,.slice none 0 0]:=(((R2.other hd8 _).other hd8 _).other hd9 _).other hd9 _
   have B4:Below w.heap.size w ((((wz.setCell ⟨w8.heap.size,0,none⟩ (.bool s41)).setCell ⟨w8.heap.size,1,none⟩ (.slice a41 l41 c41)).setCell ⟨w9.heap.size,0,none⟩ (.bool s43)).setCell ⟨w9.heap.size,1,none⟩ (.slice a43 l43 c43)):=uj (uj (uj (uj (B.trans (hB.mono B.size)) (by simp <;> omega) _) (by simp <;> omega) _) (by simp <;> omega) _) (by simp <;> omega) _
   have ⟨p0,p1,q0,q1,_⟩:=U2.box
   have ⟨p2,p3,q2,q3,_⟩:=V2.box
   unfold Rg.aV Rg.aV Rg.aV Oper.wp
   go_simp
   clear p0 p1 q0 q1 p2 p3 q2 q3 U2 V2 V3 R2 o41 o43 hB U V R C Q T B ox oz og of on oe hd8 hd9 dUV dVU hUV C_c0 C_c1 Q_c0 Q_c1 Q_c2 Q_c3 R_c0 R_c1 R_c2 R_c3 R_f0 R_f1 R_f2 R_f3 U_c0 U_c1 V_c0 V_c1 U_f0 U_f1 V_f0 V_f1
   generalize ((((wz.setCell ⟨w8.heap.size,0,none⟩ (.bool s41)).setCell ⟨w8.heap.size,1,none⟩ (.slice a41 l41 c41)).setCell ⟨w9.heap.size,0,none⟩ (.bool s43)).setCell ⟨w9.heap.size,1,none⟩ (.slice a43 l43 c43))=wf at *
   have PI3:=PI2.out
   rw [←hs41.out,←hs43.out] at PI3
   replace PI3:=uh PI3
   rename aH _ w8.heap.size _ _=>U
   rename aH _ w9.heap.size _ _=>V
   rename aH _ (w.heap.size+1+1) _ _=>R
   rename Below _ _ wf=>B
   have U_c0:=U.box.c0
   have U_c1:=U.box.c1
   have V_c0:=V.box.c0
   have V_c1:=V.box.c1
   go_wp2_with (go_at_call 153;(have O:=aH.new wf #[.bool s41,.slice a41 l41 c41,.bool s43,.slice a43 l43 c43] 120);(have b_:=bA wf (.cells #[.bool s41,.slice a41 l41 c41,.bool s43,.slice a43 l43 c43] 120));(replace R:=R.keep b_);(replace oN:=kO oN b_);(replace oE:=kO oE b_);(replace B:=B.trans (b_.mono B.size));(clear b_);(with_reducible refine (PI3.out _ _ _ _ _ oN.out oE.out).mono ?_);rintro e w10 ⟨rfl,hb10⟩;(simp only [hok.out]);(replace R:=R.keep hb10);(replace O:=O.keep hb10);(replace oN:=kO oN hb10);(replace oE:=kO oE hb10);(replace B:=B.trans (hb10.mono B.size));(replace ⟨R_c0,R_c1,R_c2,R_c3,R_f0,R_f1,R_f2,R_f3⟩:=R.b4f);(replace ⟨O_c0,O_c1,O_c2,O_c3⟩:=O.b4))
   have hr1:=aF.base (aF.dB oN.out R (by decide) (.bool s41) (.slice a41 l41 c41) (.bool s43) (.slice a43 l43 c43)) (base':=w.heap.size) (by first | exact ul _ | omega)
   have hr2:=aF.base (aF.dB oE.out R (by decide) (.bool s41) (.slice a41 l41 c41) (.bool s43) (.slice a43 l43 c43)) (base':=w.heap.size) (by first | exact ul _ | omega)
   exact bodyPost_ret (v:=.tuple #[.agg #[.bool s41,.slice a41 l41 c41,.bool s43,.slice a43 l43 c43],.bool true]) (by simp [results,Tryz.results136,go_sem, *]) rfl (⟨_,_,(by rw [hs41.out,hs43.out]),hr1,hr2,uj (uj (uj (uj B (by simp <;> omega) _) (by simp <;> omega) _) (by simp <;> omega) _) (by simp <;> omega) _⟩)
  replace hok:Wh.cR (-N) (-E)=false:=by simpa using hok
  rw [hok]
  replace hok:=uh hok
  rw [if_neg (by decide),if_neg (by decide)]
  go_enter Tryz.func136,Tryz.ntmps136
  go_upto_region 8 with (first
   | (go_at_call 135;(with_reducible refine (PG.out _ _ _ _ _ ox.out oz.out).mono ?_);rintro e w4 ⟨v4,rfl,ho4,hb4⟩;(have zb_:=B.size);(replace C:=C.keep hb4);(replace Q:=Q.keep hb4);(replace R:=R.keep hb4);(replace ox:=kO ox hb4);(replace oz:=kO oz hb4);(replace B:=B.trans (hb4.mono B.size));obtain ⟨a4,c4,rfl,hm_,hv_⟩:=aF.view ho4;(clear hm_ hv_);(have og:=uh (aF.base (show aF _ _ _ _ from ho4) zb_));(clear ho4);(generalize (Wh.dig G.natAbs).length=lg at *);(clear zb_);(have T:=aH.new w4 #[.bool true,.slice a4 lg c4] 106);(have b_:=bA w4 (.cells #[.bool true,.slice a4 lg c4] 106));(replace C:=C.keep b_);(replace Q:=Q.keep b_);(replace R:=R.keep b_);(replace ox:=kO ox b_);(replace oz:=kO oz b_);(replace og:=kO og b_);(replace B:=B.trans (b_.mono B.size));(clear b_);(replace ⟨C_c0,C_c1⟩:=C.b2);(replace ⟨Q_c0,Q_c1,Q_c2,Q_c3⟩:=Q.b4);(replace ⟨R_c0,R_c1,R_c2,R_c3,R_f0,R_f1,R_f2,R_f3⟩:=R.b4f);(replace ⟨T_c0,T_c1⟩:=T.b2))
   | (go_at_call 150;(with_reducible refine (PD.out _ _ _ _ _ ox.out oz.out).mono ?_);rintro e w6 ⟨rfl,hb6⟩;(replace C:=C.keep hb6);(replace Q:=Q.keep hb6);(replace R:=R.keep hb6);(replace T:=T.keep hb6);(replace ox:=kO ox hb6);(replace oz:=kO oz hb6);(replace og:=kO og hb6);(replace B:=B.trans (hb6.mono B.size));(replace ⟨C_c0,C_c1⟩:=C.b2);(replace ⟨Q_c0,Q_c1,Q_c2,Q_c3⟩:=Q.b4);(replace ⟨R_c0,R_c1,R_c2,R_c3,R_f0,R_f1,R_f2,R_f3⟩:=R.b4f);(replace ⟨T_c0,T_c1⟩:=T.b2))
   | (go_at_call 152;(with_reducible refine (PF.out _ _ _ _ _ ox.out oz.out).mono ?_);rintro e w7 ⟨v7,rfl,ho7,hb7⟩;(have zb_:=B.size);(replace C:=C.keep hb7);(replace Q:=Q.keep hb7);(replace R:=R.keep hb7);(replace T:=T.keep hb7);(replace ox:=kO ox hb7);(replace oz:=kO oz hb7);(replace og:=kO og hb7);(replace B:=B.trans (hb7.mono B.size));obtain ⟨a7,c7,rfl,hm_,hv_⟩:=aF.view ho7;(clear hm_ hv_);(have of:=uh (aF.base (show aF _ _ _ _ from ho7) zb_));(clear ho7);(generalize (Wh.dig F.natAbs).length=lf at *);(clear zb_);(replace ⟨C_c0,C_c1⟩:=C.b2);(replace ⟨Q_c0,Q_c1,Q_c2,Q_c3⟩:=Q.b4);(replace ⟨R_c0,R_c1,R_c2,R_c3,R_f0,R_f1,R_f2,R_f3⟩:=R.b4f);(replace ⟨T_c0,T_c1⟩:=T.b2))
   | (go_at_call 151;(with_reducible refine (PQ.out _ _ _ of.out).mono ?_);rintro e w8 ⟨v8,rfl,ho8,hb8⟩;(have zb_:=B.size);(replace C:=C.keep hb8);(replace Q:=Q.keep hb8);(replace R:=R.keep hb8);(replace T:=T.keep hb8);(replace ox:=kO ox hb8);(replace oz:=kO oz hb8);(replace og:=kO og hb8);(replace of:=kO of hb8);(replace B:=B.trans (hb8.mono B.size));obtain ⟨a8,c8,rfl,hm_,hv_⟩:=aF.view ho8;(clear hm_ hv_);(have on:=uh (aF.base (show aF _ _ _ _ from ho8) zb_));(clear ho8);(generalize (Wh.dig N.natAbs).length=ln at *);(clear zb_);(have hR8:=uh R.lt);(have U:=aH.new w8 #[.bool sN,.slice a8 ln c8] 106);(have b_:=bA w8 (.cells #[.bool sN,.slice a8 ln c8] 106));(replace C:=C.keep b_);(replace Q:=Q.keep b_);(replace R:=R.keep b_);(replace T:=T.keep b_);(replace ox:=kO ox b_);(replace oz:=kO oz b_);(replace og:=kO og b_);(replace of:=kO of b_);(replace on:=kO on b_);(replace B:=B.trans (b_.mono B.size));(clear b_);(replace ⟨C_c0,C_c1⟩:=C.b2);(replace ⟨Q_c0,Q_c1,Q_c2,Q_c3⟩:=Q.b4);(replace ⟨R_c0,R_c1,R_c2,R_c3,R_f0,R_f1,R_f2,R_f3⟩:=R.b4f);(replace ⟨T_c0,T_c1⟩:=T.b2);(replace ⟨U_c0,U_c1⟩:=U.b2))
   | (go_at_call 151;(with_reducible refine (PR.out _ _ _ og.out).mono ?_);rintro e w9 ⟨v9,rfl,ho9,hb9⟩;(have zb_:=B.size);(replace C:=C.keep hb9);(replace Q:=Q.keep hb9);(replace R:=R.keep hb9);(replace T:=T.keep hb9);(replace U:=U.keep hb9);(replace ox:=kO ox hb9);(replace oz:=kO oz hb9);(replace og:=kO og hb9);(replace of:=kO of hb9);(replace on:=kO on hb9);(replace B:=B.trans (hb9.mono B.size));obtain ⟨a9,c9,rfl,hm_,hv_⟩:=aF.view ho9;(clear hm_ hv_);(have oe:=uh (aF.base (show aF _ _ _ _ from ho9) zb_));(clear ho9);(generalize (Wh.dig E.natAbs).length=le at *);(clear zb_);(have V:=aH.new w9 #[.bool true,.slice a9 le c9] 106);(have b_:=bA w9 (.cells #[.bool true,.slice a9 le c9] 106));(replace C:=C.keep b_);(replace Q:=Q.keep b_);(replace R:=R.keep b_);(replace T:=T.keep b_);(replace U:=U.keep b_);(replace ox:=kO ox b_);(replace oz:=kO oz b_);(replace og:=kO og b_);(replace of:=kO of b_);(replace on:=kO on b_);(replace oe:=kO oe b_);(replace B:=B.trans (b_.mono B.size));(clear b_);(replace ⟨C_c0,C_c1⟩:=C.b2);(replace ⟨Q_c0,Q_c1,Q_c2,Q_c3⟩:=Q.b4);(replace ⟨R_c0,R_c1,R_c2,R_c3,R_f0,R_f1,R_f2,R_f3⟩:=R.b4f);(replace ⟨T_c0,T_c1⟩:=T.b2);(replace ⟨U_c0,U_c1,U_f0,U_f1⟩:=U.b2f);(replace ⟨V_c0,V_c1,V_f0,V_f1⟩:=V.b2f)))
  have hUV:w8.heap.size<w9.heap.size:=Nat.lt_of_lt_of_le (by rw [ui];exact Nat.lt_succ_self _) hb9.size
  generalize w9.alloc (.cells #[.bool true,.slice a9 le c9] 106)=wd at *
  refine Rg.bF 4 [.is (.agg #[.bool sN,.slice a8 ln c8]),.at (aJ (wd.heap.size) (-N)),.is (.agg #[.bool true,.slice a9 le c9]),.at (aJ (wd.heap.size) (-E))] (by kernel_rfl) (by kernel_rfl) (by kernel_rfl) ⟨?_,?_,?_,?_,fun h_=>absurd h_ (by decide),fun h_=>absurd h_ (by decide),trivial⟩ ?_
  ·intro _ ac_ w_ hB hr
   have e8:ac_.tmps[8]?=some (.pointer (some ⟨w8.heap.size,0,none⟩)):=hr 8 (by decide)
   have k0:=aE hB U.box.c0
   have k1:=aE hB U.box.c1
   exact Rg.aG rfl (by go_simp)
  ·intro _ ac_ w_ hB hr
   have e40:=Rg.ev1 (hr 40 (by decide))
   have ef:=Rg.ef ac_
   refine Rg.aX rfl (by go_simp;exact ⟨rfl,rfl⟩) ?_
   refine (PN.out _ _ _ (aF.below on.out hB)).mono ?_
   rintro e w5 ⟨sl5,rfl,ho5,hb5⟩
   exact ⟨_,rfl,aJ.at ho5 (by have:=hB.size;omega),hb5⟩
  ·intro _ ac_ w_ hB hr
   have e10:ac_.tmps[10]?=some (.pointer (some ⟨w9.heap.size,0,none⟩)):=hr 10 (by decide)
   have k0:=aE hB V.box.c0
   have k1:=aE hB V.box.c1
   exact Rg.aG rfl (by go_simp)
  ·intro _ ac_ w_ hB hr
   have e42:=Rg.ev1 (hr 42 (by decide))
   have ef:=Rg.ef ac_
   refine Rg.aX rfl (by go_simp;exact ⟨rfl,rfl⟩) ?_
   refine (PE.out _ _ _ (aF.below oe.out hB)).mono ?_
   rintro e w5 ⟨sl5,rfl,ho5,hb5⟩
   exact ⟨_,rfl,aJ.at ho5 (by have:=hB.size;omega),hb5⟩
  intro vals wz hB hv hne
  have n41:(Rg.Val.at (aJ (wd.heap.size) (-N))).ok (vals 1) wz:=hv 1 (by decide)
  have n43:(Rg.Val.at (aJ (wd.heap.size) (-E))).ok (vals 3) wz:=hv 3 (by decide)
  simp only [Rg.am,Rg.fill,Act.put,Nat.reduceAdd]
  clear hv
  obtain ⟨s41,a41,l41,c41,hs41,v_1,o41⟩:=(Rg.aZ n41).view
  obtain ⟨s43,a43,l43,c43,hs43,v_3,o43⟩:=(Rg.aZ n43).view
  simp only [v_1,v_3]
  clear v_1 v_3
  have U2:=U.keep hB
  have V2:=V.keep hB
  have R2:=R.keep hB
  have dUV:w8.heap.size≠w9.heap.size:=by omega
  have dVU:=dUV.symm
  have V3:aH ((wz.setCell ⟨w8.heap.size,0,none⟩ (.bool s41)).setCell ⟨w8.heap.size,1,none⟩ (.slice a41 l41 c41)) w9.heap.size 106 #[.bool true,.slice a9 le c9]:=(V2.other dVU _).other dVU _
  have V4:=aH.set2 V3 (.bool s43) (.slice a43 l43 c43)
  have U4:aH ((((wz.setCell ⟨w8.heap.size,0,none⟩ (.bool s41)).setCell ⟨w8.heap.size,1,none⟩ (.slice a41 l41 c41)).setCell ⟨w9.heap.size,0,none⟩ (.bool s43)).setCell ⟨w9.heap.size,1,none⟩ (.slice a43 l43 c43)) w8.heap.size 106 #[.bool s41,.slice a41 l41 c41]:=((aH.set2 U2 (.bool s41) (.slice a41 l41 c41)).other dUV _).other dUV _
  have oN:=uh (aF.bC (aF.bC (aF.base o41 B.size) U2 (by decide) (.bool s41) (.slice a41 l41 c41)) V3 (by decide) (.bool s43) (.slice a43 l43 c43))
  have oE:=uh (aF.bC (aF.bC (aF.base o43 B.size) U2 (by decide) (.bool s41) (.slice a41 l41 c41)) V3 (by decide) (.bool s43) (.slice a43 l43 c43))
  have hw8:w.heap.size+1+1<w8.heap.size:=hR8.out
  have hd9:w.heap.size+1+1≠w9.heap.size:=by omega
  have hd8:w.heap.size+1+1≠w8.heap.size:=by omega
  have R4:aH ((((wz.setCell ⟨w8.heap.size,0,none⟩ (.bool s41)).setCell ⟨w8.heap.size,1,none⟩ (.slice a41 l41 c41)).setCell ⟨w9.heap.size,0,none⟩ (.bool s43)).setCell ⟨w9.heap.size,1,none⟩ (.slice a43 l43 c43)) (w.heap.size+1+1) 120 #[.bool false,.slice none 0 0,.bool false,.slice none 0 0]:=(((R2.other hd8 _).other hd8 _).other hd9 _).other hd9 _
  have B4:Below w.heap.size w ((((wz.setCell ⟨w8.heap.size,0,none⟩ (.bool s41)).setCell ⟨w8.heap.size,1,none⟩ (.slice a41 l41 c41)).setCell ⟨w9.heap.size,0,none⟩ (.bool s43)).setCell ⟨w9.heap.size,1,none⟩ (.slice a43 l43 c43)):=uj (uj (uj (uj (B.trans (hB.mono B.size)) (by simp <;> omega) _) (by simp <;> omega) _) (by simp <;> omega) _) (by simp <;> omega) _
  have ⟨p0,p1,q0,q1,_⟩:=U2.box
  have ⟨p2,p3,q2,q3,_⟩:=V2.box
  unfold Rg.aV Rg.aV Rg.aV Oper.wp
  go_simp
  clear p0 p1 q0 q1 p2 p3 q2 q3 U2 V2 V3 R2 o41 o43 hB U V R C Q T B ox oz og of on oe hd8 hd9 dUV dVU hUV C_c0 C_c1 Q_c0 Q_c1 Q_c2 Q_c3 R_c0 R_c1 R_c2 R_c3 R_f0 R_f1 R_f2 R_f3 U_c0 U_c1 V_c0 V_c1 U_f0 U_f1 V_f0 V_f1
  generalize ((((wz.setCell ⟨w8.heap.size,0,none⟩ (.bool s41)).setCell ⟨w8.heap.size,1,none⟩ (.slice a41 l41 c41)).setCell ⟨w9.heap.size,0,none⟩ (.bool s43)).setCell ⟨w9.heap.size,1,none⟩ (.slice a43 l43 c43))=wf at *
  have PI3:=PI2.out
  rw [←hs41.out,←hs43.out] at PI3
  replace PI3:=uh PI3
  rename aH _ w8.heap.size _ _=>U
  rename aH _ w9.heap.size _ _=>V
  rename aH _ (w.heap.size+1+1) _ _=>R
  rename Below _ _ wf=>B
  have U_c0:=U.box.c0
  have U_c1:=U.box.c1
  have V_c0:=V.box.c0
  have V_c1:=V.box.c1
  go_wp2_with (go_at_call 153;(have O:=aH.new wf #[.bool s41,.slice a41 l41 c41,.bool s43,.slice a43 l43 c43] 120);(have b_:=bA wf (.cells #[.bool s41,.slice a41 l41 c41,.bool s43,.slice a43 l43 c43] 120));(replace R:=R.keep b_);(replace oN:=kO oN b_);(replace oE:=kO oE b_);(replace B:=B.trans (b_.mono B.size));(clear b_);(with_reducible refine (PI3.out _ _ _ _ _ oN.out oE.out).mono ?_);rintro e w10 ⟨rfl,hb10⟩;(simp only [hok.out]);(replace R:=R.keep hb10);(replace O:=O.keep hb10);(replace oN:=kO oN hb10);(replace oE:=kO oE hb10);(replace B:=B.trans (hb10.mono B.size));(replace ⟨R_c0,R_c1,R_c2,R_c3,R_f0,R_f1,R_f2,R_f3⟩:=R.b4f);(replace ⟨O_c0,O_c1,O_c2,O_c3⟩:=O.b4))
  exact bodyPost_ret (v:=.tuple #[.agg #[.bool false,.slice none 0 0,.bool false,.slice none 0 0],.bool false]) (by simp [results,Tryz.results136,go_sem, *]) rfl (⟨_,_,rfl,eo _ _,eo _ _,uj (uj (uj (uj B (by simp <;> omega) _) (by simp <;> omega) _) (by simp <;> omega) _) (by simp <;> omega) _⟩)
 have hsg:decide (G<0)=false:=decide_eq_false hneg
 rw [hsg] at hES PG
 rw [if_neg hneg,if_neg hneg]
 simp only [hsg,hES] at PR PE PI1
 clear PI2 PN PE
 generalize hsN:decide (N<0)=sN at *
 replace PG:=uh PG
 replace PF:=uh PF
 replace PD:=uh PD
 replace PQ:=uh PQ
 replace PR:=uh PR
 replace PI1:=uh PI1
 replace hsN:=uh hsN
 replace hES:=uh hES
 clear hneg hsg hd1 hd2
 by_cases hok:Wh.cR (N) (E)=true
 ·skip
  rw [hok]
  replace hok:=uh hok
  rw [if_pos rfl,if_pos rfl]
  go_enter Tryz.func136,Tryz.ntmps136
  go_wp2_with (first
   | (go_at_call 135;(with_reducible refine (PG.out _ _ _ _ _ ox.out oz.out).mono ?_);rintro e w4 ⟨v4,rfl,ho4,hb4⟩;(have zb_:=B.size);(replace C:=C.keep hb4);(replace Q:=Q.keep hb4);(replace R:=R.keep hb4);(replace ox:=kO ox hb4);(replace oz:=kO oz hb4);(replace B:=B.trans (hb4.mono B.size));obtain ⟨a4,c4,rfl,hm_,hv_⟩:=aF.view ho4;(clear hm_ hv_);(have og:=uh (aF.base (show aF _ _ _ _ from ho4) zb_));(clear ho4);(generalize (Wh.dig G.natAbs).length=lg at *);(clear zb_);(have T:=aH.new w4 #[.bool false,.slice a4 lg c4] 106);(have b_:=bA w4 (.cells #[.bool false,.slice a4 lg c4] 106));(replace C:=C.keep b_);(replace Q:=Q.keep b_);(replace R:=R.keep b_);(replace ox:=kO ox b_);(replace oz:=kO oz b_);(replace og:=kO og b_);(replace B:=B.trans (b_.mono B.size));(clear b_);(replace ⟨C_c0,C_c1⟩:=C.b2);(replace ⟨Q_c0,Q_c1,Q_c2,Q_c3⟩:=Q.b4);(replace ⟨R_c0,R_c1,R_c2,R_c3,R_f0,R_f1,R_f2,R_f3⟩:=R.b4f);(replace ⟨T_c0,T_c1⟩:=T.b2))
   | (go_at_call 150;(with_reducible refine (PD.out _ _ _ _ _ ox.out oz.out).mono ?_);rintro e w6 ⟨rfl,hb6⟩;(replace C:=C.keep hb6);(replace Q:=Q.keep hb6);(replace R:=R.keep hb6);(replace T:=T.keep hb6);(replace ox:=kO ox hb6);(replace oz:=kO oz hb6);(replace og:=kO og hb6);(replace B:=B.trans (hb6.mono B.size));(replace ⟨C_c0,C_c1⟩:=C.b2);(replace ⟨Q_c0,Q_c1,Q_c2,Q_c3⟩:=Q.b4);(replace ⟨R_c0,R_c1,R_c2,R_c3,R_f0,R_f1,R_f2,R_f3⟩:=R.b4f);(replace ⟨T_c0,T_c1⟩:=T.b2))
   | (go_at_call 152;(with_reducible refine (PF.out _ _ _ _ _ ox.out oz.out).mono ?_);rintro e w7 ⟨v7,rfl,ho7,hb7⟩;(have zb_:=B.size);(replace C:=C.keep hb7);(replace Q:=Q.keep hb7);(replace R:=R.keep hb7);(replace T:=T.keep hb7);(replace ox:=kO ox hb7);(replace oz:=kO oz hb7);(replace og:=kO og hb7);(replace B:=B.trans (hb7.mono B.size));obtain ⟨a7,c7,rfl,hm_,hv_⟩:=aF.view ho7;(clear hm_ hv_);(have of:=uh (aF.base (show aF _ _ _ _ from ho7) zb_));(clear ho7);(generalize (Wh.dig F.natAbs).length=lf at *);(clear zb_);(replace ⟨C_c0,C_c1⟩:=C.b2);(replace ⟨Q_c0,Q_c1,Q_c2,Q_c3⟩:=Q.b4);(replace ⟨R_c0,R_c1,R_c2,R_c3,R_f0,R_f1,R_f2,R_f3⟩:=R.b4f);(replace ⟨T_c0,T_c1⟩:=T.b2))
   | (go_at_call 151;(with_reducible refine (PQ.out _ _ _ of.out).mono ?_);rintro e w8 ⟨v8,rfl,ho8,hb8⟩;(have zb_:=B.size);(replace C:=C.keep hb8);(replace Q:=Q.keep hb8);(replace R:=R.keep hb8);(replace T:=T.keep hb8);(replace ox:=kO ox hb8);(replace oz:=kO oz hb8);(replace og:=kO og hb8);(replace of:=kO of hb8);(replace B:=B.trans (hb8.mono B.size));obtain ⟨a8,c8,rfl,hm_,hv_⟩:=aF.view ho8;(clear hm_ hv_);(have on:=uh (aF.base (show aF _ _ _ _ from ho8) zb_));(clear ho8);(generalize (Wh.dig N.natAbs).length=ln at *);(clear zb_);(have hR8:=uh R.lt);(have U:=aH.new w8 #[.bool sN,.slice a8 ln c8] 106);(have b_:=bA w8 (.cells #[.bool sN,.slice a8 ln c8] 106));(replace C:=C.keep b_);(replace Q:=Q.keep b_);(replace R:=R.keep b_);(replace T:=T.keep b_);(replace ox:=kO ox b_);(replace oz:=kO oz b_);(replace og:=kO og b_);(replace of:=kO of b_);(replace on:=kO on b_);(replace B:=B.trans (b_.mono B.size));(clear b_);(replace ⟨C_c0,C_c1⟩:=C.b2);(replace ⟨Q_c0,Q_c1,Q_c2,Q_c3⟩:=Q.b4);(replace ⟨R_c0,R_c1,R_c2,R_c3,R_f0,R_f1,R_f2,R_f3⟩:=R.b4f);(replace ⟨T_c0,T_c1⟩:=T.b2);(replace ⟨U_c0,U_c1⟩:=U.b2))
   | (go_at_call 151;(with_reducible refine (PR.out _ _ _ og.out).mono ?_);rintro e w9 ⟨v9,rfl,ho9,hb9⟩;(have zb_:=B.size);(replace C:=C.keep hb9);(replace Q:=Q.keep hb9);(replace R:=R.keep hb9);(replace T:=T.keep hb9);(replace U:=U.keep hb9);(replace ox:=kO ox hb9);(replace oz:=kO oz hb9);(replace og:=kO og hb9);(replace of:=kO of hb9);(replace on:=kO on hb9);(replace B:=B.trans (hb9.mono B.size));obtain ⟨a9,c9,rfl,hm_,hv_⟩:=aF.view ho9;(clear hm_ hv_);(have oe:=uh (aF.base (show aF _ _ _ _ from ho9) zb_));(clear ho9);(generalize (Wh.dig E.natAbs).length=le at *);(clear zb_);(have V:=aH.new w9 #[.bool false,.slice a9 le c9] 106);(have b_:=bA w9 (.cells #[.bool false,.slice a9 le c9] 106));(replace C:=C.keep b_);(replace Q:=Q.keep b_);(replace R:=R.keep b_);(replace T:=T.keep b_);(replace U:=U.keep b_);(replace ox:=kO ox b_);(replace oz:=kO oz b_);(replace og:=kO og b_);(replace of:=kO of b_);(replace on:=kO on b_);(replace oe:=kO oe b_);(replace B:=B.trans (b_.mono B.size));(clear b_);(replace ⟨C_c0,C_c1⟩:=C.b2);(replace ⟨Q_c0,Q_c1,Q_c2,Q_c3⟩:=Q.b4);(replace ⟨R_c0,R_c1,R_c2,R_c3,R_f0,R_f1,R_f2,R_f3⟩:=R.b4f);(replace ⟨T_c0,T_c1⟩:=T.b2);(replace ⟨U_c0,U_c1,U_f0,U_f1⟩:=U.b2f);(replace ⟨V_c0,V_c1,V_f0,V_f1⟩:=V.b2f);(have O:=aH.new (w9.alloc (.cells #[.bool false,.slice a9 le c9] 106)) #[.bool sN,.slice a8 ln c8,.bool false,.slice a9 le c9] 120);(have b_:=bA (w9.alloc (.cells #[.bool false,.slice a9 le c9] 106)) (.cells #[.bool sN,.slice a8 ln c8,.bool false,.slice a9 le c9] 120));(replace C:=C.keep b_);(replace Q:=Q.keep b_);(replace R:=R.keep b_);(replace T:=T.keep b_);(replace U:=U.keep b_);(replace V:=V.keep b_);(replace ox:=kO ox b_);(replace oz:=kO oz b_);(replace og:=kO og b_);(replace of:=kO of b_);(replace on:=kO on b_);(replace oe:=kO oe b_);(replace B:=B.trans (b_.mono B.size));(clear b_);(rw [ui] at O))
   | (go_at_call 153;(with_reducible refine (PI1.out _ _ _ _ _ on.out oe.out).mono ?_);rintro e w10 ⟨rfl,hb10⟩;(simp only [hok.out]);(replace C:=C.keep hb10);(replace Q:=Q.keep hb10);(replace R:=R.keep hb10);(replace T:=T.keep hb10);(replace U:=U.keep hb10);(replace V:=V.keep hb10);(replace O:=O.keep hb10);(replace ox:=kO ox hb10);(replace oz:=kO oz hb10);(replace og:=kO og hb10);(replace of:=kO of hb10);(replace on:=kO on hb10);(replace oe:=kO oe hb10);(replace B:=B.trans (hb10.mono B.size));(replace ⟨C_c0,C_c1⟩:=C.b2);(replace ⟨Q_c0,Q_c1,Q_c2,Q_c3⟩:=Q.b4);(replace ⟨R_c0,R_c1,R_c2,R_c3,R_f0,R_f1,R_f2,R_f3⟩:=R.b4f);(replace ⟨T_c0,T_c1⟩:=T.b2);(replace ⟨U_c0,U_c1⟩:=U.b2);(replace ⟨V_c0,V_c1⟩:=V.b2);(replace ⟨O_c0,O_c1,O_c2,O_c3⟩:=O.b4)))
  have hr1:=aF.base (aF.dB on.out R (by decide) (.bool sN) (.slice a8 ln c8) (.bool false) (.slice a9 le c9)) (base':=w.heap.size) (by first | exact ul _ | omega)
  have hr2:=aF.base (aF.dB oe.out R (by decide) (.bool sN) (.slice a8 ln c8) (.bool false) (.slice a9 le c9)) (base':=w.heap.size) (by first | exact ul _ | omega)
  exact bodyPost_ret (v:=.tuple #[.agg #[.bool sN,.slice a8 ln c8,.bool false,.slice a9 le c9],.bool true]) (by simp [results,Tryz.results136,go_sem, *]) rfl (⟨_,_,(by rw [hsN.out,hES.out]),hr1,hr2,uj (uj (uj (uj B (by simp <;> omega) _) (by simp <;> omega) _) (by simp <;> omega) _) (by simp <;> omega) _⟩)
 replace hok:Wh.cR (N) (E)=false:=by simpa using hok
 rw [hok]
 replace hok:=uh hok
 rw [if_neg (by decide),if_neg (by decide)]
 go_enter Tryz.func136,Tryz.ntmps136
 go_wp2_with (first
  | (go_at_call 135;(with_reducible refine (PG.out _ _ _ _ _ ox.out oz.out).mono ?_);rintro e w4 ⟨v4,rfl,ho4,hb4⟩;(have zb_:=B.size);(replace C:=C.keep hb4);(replace Q:=Q.keep hb4);(replace R:=R.keep hb4);(replace ox:=kO ox hb4);(replace oz:=kO oz hb4);(replace B:=B.trans (hb4.mono B.size));obtain ⟨a4,c4,rfl,hm_,hv_⟩:=aF.view ho4;(clear hm_ hv_);(have og:=uh (aF.base (show aF _ _ _ _ from ho4) zb_));(clear ho4);(generalize (Wh.dig G.natAbs).length=lg at *);(clear zb_);(have T:=aH.new w4 #[.bool false,.slice a4 lg c4] 106);(have b_:=bA w4 (.cells #[.bool false,.slice a4 lg c4] 106));(replace C:=C.keep b_);(replace Q:=Q.keep b_);(replace R:=R.keep b_);(replace ox:=kO ox b_);(replace oz:=kO oz b_);(replace og:=kO og b_);(replace B:=B.trans (b_.mono B.size));(clear b_);(replace ⟨C_c0,C_c1⟩:=C.b2);(replace ⟨Q_c0,Q_c1,Q_c2,Q_c3⟩:=Q.b4);(replace ⟨R_c0,R_c1,R_c2,R_c3,R_f0,R_f1,R_f2,R_f3⟩:=R.b4f);(replace ⟨T_c0,T_c1⟩:=T.b2))
  | (go_at_call 150;(with_reducible refine (PD.out _ _ _ _ _ ox.out oz.out).mono ?_);rintro e w6 ⟨rfl,hb6⟩;(replace C:=C.keep hb6);(replace Q:=Q.keep hb6);(replace R:=R.keep hb6);(replace T:=T.keep hb6);(replace ox:=kO ox hb6);(replace oz:=kO oz hb6);(replace og:=kO og hb6);(replace B:=B.trans (hb6.mono B.size));(replace ⟨C_c0,C_c1⟩:=C.b2);(replace ⟨Q_c0,Q_c1,Q_c2,Q_c3⟩:=Q.b4);(replace ⟨R_c0,R_c1,R_c2,R_c3,R_f0,R_f1,R_f2,R_f3⟩:=R.b4f);(replace ⟨T_c0,T_c1⟩:=T.b2))
  | (go_at_call 152;(with_reducible refine (PF.out _ _ _ _ _ ox.out oz.out).mono ?_);rintro e w7 ⟨v7,rfl,ho7,hb7⟩;(have zb_:=B.size);(replace C:=C.keep hb7);(replace Q:=Q.keep hb7);(replace R:=R.keep hb7);(replace T:=T.keep hb7);(replace ox:=kO ox hb7);(replace oz:=kO oz hb7);(replace og:=kO og hb7);(replace B:=B.trans (hb7.mono B.size));obtain ⟨a7,c7,rfl,hm_,hv_⟩:=aF.view ho7;(clear hm_ hv_);(have of:=uh (aF.base (show aF _ _ _ _ from ho7) zb_));(clear ho7);(generalize (Wh.dig F.natAbs).length=lf at *);(clear zb_);(replace ⟨C_c0,C_c1⟩:=C.b2);(replace ⟨Q_c0,Q_c1,Q_c2,Q_c3⟩:=Q.b4);(replace ⟨R_c0,R_c1,R_c2,R_c3,R_f0,R_f1,R_f2,R_f3⟩:=R.b4f);(replace ⟨T_c0,T_c1⟩:=T.b2))
  | (go_at_call 151;(with_reducible refine (PQ.out _ _ _ of.out).mono ?_);rintro e w8 ⟨v8,rfl,ho8,hb8⟩;(have zb_:=B.size);(replace C:=C.keep hb8);(replace Q:=Q.keep hb8);(replace R:=R.keep hb8);(replace T:=T.keep hb8);(replace ox:=kO ox hb8);(replace oz:=kO oz hb8);(replace og:=kO og hb8);(replace of:=kO of hb8);(replace B:=B.trans (hb8.mono B.size));obtain ⟨a8,c8,rfl,hm_,hv_⟩:=aF.view ho8;(clear hm_ hv_);(have on:=uh (aF.base (show aF _ _ _ _ from ho8) zb_));(clear ho8);(generalize (Wh.dig N.natAbs).length=ln at *);(clear zb_);(have hR8:=uh R.lt);(have U:=aH.new w8 #[.bool sN,.slice a8 ln c8] 106);(have b_:=bA w8 (.cells #[.bool sN,.slice a8 ln c8] 106));(replace C:=C.keep b_);(replace Q:=Q.keep b_);(replace R:=R.keep b_);(replace T:=T.keep b_);(replace ox:=kO ox b_);(replace oz:=kO oz b_);(replace og:=kO og b_);(replace of:=kO of b_);(replace on:=kO on b_);(replace B:=B.trans (b_.mono B.size));(clear b_);(replace ⟨C_c0,C_c1⟩:=C.b2);(replace ⟨Q_c0,Q_c1,Q_c2,Q_c3⟩:=Q.b4);(replace ⟨R_c0,R_c1,R_c2,R_c3,R_f0,R_f1,R_f2,R_f3⟩:=R.b4f);(replace ⟨T_c0,T_c1⟩:=T.b2);(replace ⟨U_c0,U_c1⟩:=U.b2))
  | (go_at_call 151;(with_reducible refine (PR.out _ _ _ og.out).mono ?_);rintro e w9 ⟨v9,rfl,ho9,hb9⟩;(have zb_:=B.size);(replace C:=C.keep hb9);(replace Q:=Q.keep hb9);(replace R:=R.keep hb9);(replace T:=T.keep hb9);(replace U:=U.keep hb9);(replace ox:=kO ox hb9);(replace oz:=kO oz hb9);(replace og:=kO og hb9);(replace of:=kO of hb9);(replace on:=kO on hb9);(replace B:=B.trans (hb9.mono B.size));obtain ⟨a9,c9,rfl,hm_,hv_⟩:=aF.view ho9;(clear hm_ hv_);(have oe:=uh (aF.base (show aF _ _ _ _ from ho9) zb_));(clear ho9);(generalize (Wh.dig E.natAbs).length=le at *);(clear zb_);(have V:=aH.new w9 #[.bool false,.slice a9 le c9] 106);(have b_:=bA w9 (.cells #[.bool false,.slice a9 le c9] 106));(replace C:=C.keep b_);(replace Q:=Q.keep b_);(replace R:=R.keep b_);(replace T:=T.keep b_);(replace U:=U.keep b_);(replace ox:=kO ox b_);(replace oz:=kO oz b_);(replace og:=kO og b_);(replace of:=kO of b_);(replace on:=kO on b_);(replace oe:=kO oe b_);(replace B:=B.trans (b_.mono B.size));(clear b_);(replace ⟨C_c0,C_c1⟩:=C.b2);(replace ⟨Q_c0,Q_c1,Q_c2,Q_c3⟩:=Q.b4);(replace ⟨R_c0,R_c1,R_c2,R_c3,R_f0,R_f1,R_f2,R_f3⟩:=R.b4f);(replace ⟨T_c0,T_c1⟩:=T.b2);(replace ⟨U_c0,U_c1,U_f0,U_f1⟩:=U.b2f);(replace ⟨V_c0,V_c1,V_f0,V_f1⟩:=V.b2f);(have O:=aH.new (w9.alloc (.cells #[.bool false,.slice a9 le c9] 106)) #[.bool sN,.slice a8 ln c8,.bool false,.slice a9 le c9] 120);(have b_:=bA (w9.alloc (.cells #[.bool false,.slice a9 le c9] 106)) (.cells #[.bool sN,.slice a8 ln c8,.bool false,.slice a9 le c9] 120));(replace C:=C.keep b_);(replace Q:=Q.keep b_);(replace R:=R.keep b_);(replace T:=T.keep b_);(replace U:=U.keep b_);(replace V:=V.keep b_);(replace ox:=kO ox b_);(replace oz:=kO oz b_);(replace og:=kO og b_);(replace of:=kO of b_);(replace on:=kO on b_);(replace oe:=kO oe b_);(replace B:=B.trans (b_.mono B.size));(clear b_);(rw [ui] at O))
  | (go_at_call 153;(with_reducible refine (PI1.out _ _ _ _ _ on.out oe.out).mono ?_);rintro e w10 ⟨rfl,hb10⟩;(simp only [hok.out]);(replace C:=C.keep hb10);(replace Q:=Q.keep hb10);(replace R:=R.keep hb10);(replace T:=T.keep hb10);(replace U:=U.keep hb10);(replace V:=V.keep hb10);(replace O:=O.keep hb10);(replace ox:=kO ox hb10);(replace oz:=kO oz hb10);(replace og:=kO og hb10);(replace of:=kO of hb10);(replace on:=kO on hb10);(replace oe:=kO oe hb10);(replace B:=B.trans (hb10.mono B.size));(replace ⟨C_c0,C_c1⟩:=C.b2);(replace ⟨Q_c0,Q_c1,Q_c2,Q_c3⟩:=Q.b4);(replace ⟨R_c0,R_c1,R_c2,R_c3,R_f0,R_f1,R_f2,R_f3⟩:=R.b4f);(replace ⟨T_c0,T_c1⟩:=T.b2);(replace ⟨U_c0,U_c1⟩:=U.b2);(replace ⟨V_c0,V_c1⟩:=V.b2);(replace ⟨O_c0,O_c1,O_c2,O_c3⟩:=O.b4)))
 exact bodyPost_ret (v:=.tuple #[.agg #[.bool false,.slice none 0 0,.bool false,.slice none 0 0],.bool false]) (by simp [results,Tryz.results136,go_sem, *]) rfl (⟨_,_,rfl,eo _ _,eo _ _,uj (uj (uj (uj B (by simp <;> omega) _) (by simp <;> omega) _) (by simp <;> omega) _) (by simp <;> omega) _⟩)
end
end Go.Proofs.YtgfkcoablfjbcaaGreatDoor
