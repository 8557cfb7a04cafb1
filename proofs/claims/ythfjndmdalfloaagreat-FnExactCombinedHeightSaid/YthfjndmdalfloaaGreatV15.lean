/-
  Joined texts: contracts and plain lemmas.
-/
import Derived.Test.YthfjndmdalfloaaGreatV14
import Derived.Test.YthfjndmdalfloaaGreatV2
import Derived.Test.YthfjndmdalfloaaGreatV1
import Derived.Deep.DeepCutAuto
import Derived.Deep.RegionWith
set_option linter.unusedSimpArgs false
set_option linter.unusedVariables false
set_option maxRecDepth 100000
set_option maxHeartbeats 8000000
namespace Go.Proofs.YthfjndmdalfloaaGreat
section
open Go.RowKit
theorem ij (lo hi:Int) (ok:Bool) (w:World) :
  Calls Tryz.prog 42 #[.agg #[.int .i64 lo,.int .i64 hi],.bool ok] w fun e w'=>e=.returned (.tuple #[.agg #[.int .i64 (M.pick (ok && M.spanOk lo hi) (M.pn lo)),.int .i64 (M.pick (ok && M.spanOk lo hi) (M.pd (lo))),.int .i64 (M.pick (ok && M.spanOk lo hi) (M.pn (hi))),.int .i64 (M.pick (ok && M.spanOk lo hi) (M.pd (hi)))],.bool (ok && M.spanOk lo hi)])∧Below w.heap.size w w':=by
 have PV:=Lib.hid fun W=>eR lo hi W
 cases ok with
 | false=>
  go_enter Tryz.func42,Tryz.ntmps42
  go_wp2
  exact bodyPost_ret (v:=.tuple #[.agg #[.int .i64 0,.int .i64 0,.int .i64 0,.int .i64 0],.bool false]) (by simp [results,Tryz.results42,go_sem, *]) rfl (⟨by simp [M.pick],(by repeat (first | exact Below.refl _ _ | refine aL ?_ _ | refine aM ?_ (by assumption) | refine Below.drew ?_ | refine Below.setCell ?_ (by first | exact Nat.le_refl _ | exact Nat.le_add_right _ _ | (simp <;> omega)) _ | refine aJ ?_ _))⟩)
 | true=>
  cases hs:M.spanOk lo hi with
  | false=>
   have PV1:=PV.out
   rw [hs] at PV1
   have PV1:=Lib.hid PV1
   clear PV hs
   have R:=((aG.new (w.alloc (.cells #[.int .i64 lo,.int .i64 hi] 58)) #[.int .i64 0,.int .i64 0,.int .i64 0,.int .i64 0] 38))
   rw [World.size_alloc] at R
   have B:=((Below.refl w.heap.size w).alloc (Nat.le_refl _) (.cells #[.int .i64 lo,.int .i64 hi] 58)).alloc (by rw [World.size_alloc];omega) (.cells #[.int .i64 0,.int .i64 0,.int .i64 0,.int .i64 0] 38)
   go_enter Tryz.func42,Tryz.ntmps42
   go_wp2_with (go_at_call 73;(with_reducible refine (PV1.out _).mono ?_);rintro e w4 ⟨rfl,hb4⟩;(have R2:=(R.keep hb4).boxQ);(have ⟨c0,c1,c2,c3,f0,f1,f2,f3,_⟩:=R2);(have B4:=B.trans (hb4.mono B.size)))
   exact bodyPost_ret (v:=.tuple #[.agg #[.int .i64 0,.int .i64 0,.int .i64 0,.int .i64 0],.bool false]) (by simp [results,Tryz.results42,go_sem, *]) rfl (⟨by simp [M.pick],Below.setCell (Below.setCell (Below.setCell (Below.setCell B4 (by simp <;> omega) _) (by simp <;> omega) _) (by simp <;> omega) _) (by simp <;> omega) _⟩)
  | true=>
   obtain ⟨h1,h2,h3⟩:=M.spanOk_bd hs
   have PV1:=PV.out
   rw [hs] at PV1
   have PV1:=Lib.hid PV1
   clear PV hs
   have P1:=fun W=>dE lo 4096 W (by omega) (by omega) (by omega) (by omega) (by omega)
   have P2:=fun W=>dE hi 4096 W (by omega) (by omega) (by omega) (by omega) (by omega)
   have e1:=Lib.hid (show M.pn lo=M.fN (M.fmk lo 4096) from rfl)
   have e2:=Lib.hid (show M.pd lo=M.fD (M.fmk lo 4096) from rfl)
   have e3:=Lib.hid (show M.pn hi=M.fN (M.fmk hi 4096) from rfl)
   have e4:=Lib.hid (show M.pd hi=M.fD (M.fmk hi 4096) from rfl)
   generalize (M.fmk lo 4096).isSome=o1 at *
   generalize (M.fmk hi 4096).isSome=o2 at *
   generalize M.fN (M.fmk lo 4096)=p1 at *
   generalize M.fD (M.fmk lo 4096)=p2 at *
   generalize M.fN (M.fmk hi 4096)=p3 at *
   generalize M.fD (M.fmk hi 4096)=p4 at *
   replace P1:=Lib.hid P1
   replace P2:=Lib.hid P2
   have S:=(aG.new w #[.int .i64 lo,.int .i64 hi] 58).alloc (.cells #[.int .i64 0,.int .i64 0,.int .i64 0,.int .i64 0] 38)
   have R:=((aG.new (w.alloc (.cells #[.int .i64 lo,.int .i64 hi] 58)) #[.int .i64 0,.int .i64 0,.int .i64 0,.int .i64 0] 38))
   rw [World.size_alloc] at R
   have B:=((Below.refl w.heap.size w).alloc (Nat.le_refl _) (.cells #[.int .i64 lo,.int .i64 hi] 58)).alloc (by rw [World.size_alloc];omega) (.cells #[.int .i64 0,.int .i64 0,.int .i64 0,.int .i64 0] 38)
   generalize hw3:(w.alloc (.cells #[.int .i64 lo,.int .i64 hi] 58)).alloc (.cells #[.int .i64 0,.int .i64 0,.int .i64 0,.int .i64 0] 38)=wc at *
   have S_c0:=S.box.c0
   have S_c1:=S.box.c1
   go_enter Tryz.func42,Tryz.ntmps42
   go_wp2_with (first
    | (go_at_call 73;(with_reducible refine (PV1.out _).mono ?_);rintro e w4 ⟨rfl,hb4⟩;(replace S:=S.keep hb4);(replace R:=R.keep hb4);(replace B:=B.trans (hb4.mono B.size));(replace ⟨S_c0,S_c1⟩:=S.b2);(replace ⟨R_c0,R_c1,R_c2,R_c3,R_f0,R_f1,R_f2,R_f3⟩:=R.b4f))
    | (go_at_call 74;(with_reducible refine (P1.out _).mono ?_);rintro e w5 ⟨rfl,hb5⟩;(replace S:=S.keep hb5);(replace R:=R.keep hb5);(replace B:=B.trans (hb5.mono B.size));(have F:=aG.new w5 #[.int .i64 p1,.int .i64 p2] 36);(have b_:=bA w5 (.cells #[.int .i64 p1,.int .i64 p2] 36));(replace S:=S.keep b_);(replace R:=R.keep b_);(replace B:=B.trans (b_.mono B.size));(clear b_);(replace ⟨S_c0,S_c1⟩:=S.b2);(replace ⟨R_c0,R_c1,R_c2,R_c3,R_f0,R_f1,R_f2,R_f3⟩:=R.b4f);(replace ⟨F_c0,F_c1⟩:=F.b2))
    | (go_at_call 74;(with_reducible refine (P2.out _).mono ?_);rintro e w6 ⟨rfl,hb6⟩;(replace S:=S.keep hb6);(replace R:=R.keep hb6);(replace F:=F.keep hb6);(replace B:=B.trans (hb6.mono B.size));(have G:=aG.new w6 #[.int .i64 p3,.int .i64 p4] 36);(have b_:=bA w6 (.cells #[.int .i64 p3,.int .i64 p4] 36));(replace S:=S.keep b_);(replace R:=R.keep b_);(replace F:=F.keep b_);(replace B:=B.trans (b_.mono B.size));(clear b_);(replace ⟨S_c0,S_c1⟩:=S.b2);(replace ⟨R_c0,R_c1,R_c2,R_c3,R_f0,R_f1,R_f2,R_f3⟩:=R.b4f);(replace ⟨F_c0,F_c1⟩:=F.b2);(replace ⟨G_c0,G_c1⟩:=G.b2)))
   exact bodyPost_ret (v:=.tuple #[.agg #[.int .i64 p1,.int .i64 p2,.int .i64 p3,.int .i64 p4],.bool true]) (by simp [results,Tryz.results42,go_sem, *]) rfl (⟨by simp [M.pick,e1.out,e2.out,e3.out,e4.out],Below.setCell (Below.setCell (Below.setCell (Below.setCell B (by simp <;> omega) _) (by simp <;> omega) _) (by simp <;> omega) _) (by simp <;> omega) _⟩)
theorem dO (a:Int) (w:World) (h:(M.fmk a 4096).isSome=true) :
  Calls Tryz.prog 88 #[.agg #[.int .i64 (M.pn a),.int .i64 (M.pd a)]] w fun e w'=>e=.returned (.tuple #[.int .i64 a,.bool (M.ins a (-409600000) 409600000)])∧Below w.heap.size w w':=by
 obtain ⟨hok,d1,d2,hm,hp,g1,g2,n1,n2⟩:=M.gridOf h
 have hfar:=M.far_bd h
 obtain ⟨r1,r2⟩:=hfar
 have PF:=fun W=>gP (M.pn a) (M.pd a) W
 rw [hok] at PF
 generalize M.pn a=n at *
 generalize M.pd a=d at *
 have hd0:¬ d=0:=by omega
 have ht:(4096:Int).tmod d=0:=by rw [Int.tmod_eq_emod_of_nonneg (by omega)];exact hm
 have hq:(4096:Int).tdiv d=4096 / d:=Int.tdiv_eq_ediv_of_nonneg (by omega)
 have PI:=fun W=>bW a (-409600000) 409600000 W
 replace PF:=Lib.hid PF
 replace PI:=Lib.hid PI
 clear h hok
 generalize 4096 / d=g at *
 have hq2:=Lib.hid hq
 have hp2:=Lib.hid hp
 have hw1:=Lib.hid (show IntKind.i64.wrap g=g from IntWalk.i64_in _ (by omega))
 have hw2:=Lib.hid (show IntKind.i64.wrap (n*g)=a by rw [hp];exact IntWalk.i64_in _ (by omega))
 clear hq hp
 have hm2:=Lib.hid hm
 have V:=aG.new w #[.int .i64 n,.int .i64 d] 36
 have B:=(Below.refl w.heap.size w).alloc (Nat.le_refl _) (.cells #[.int .i64 n,.int .i64 d] 36)
 generalize hw3:w.alloc (.cells #[.int .i64 n,.int .i64 d] 36)=wc at *
 have V_c0:=V.box.c0
 have V_c1:=V.box.c1
 go_enter Tryz.func88,Tryz.ntmps88
 go_upto_region 3 with (go_at_call 105;(with_reducible refine (PF.out _).mono ?_);rintro e w4 ⟨rfl,hb4⟩;(replace V:=V.keep hb4);(replace B:=B.trans (hb4.mono B.size));(replace ⟨V_c0,V_c1⟩:=V.b2))
 refine Rg.walkT 7 [.is (.pointer (some ⟨w.heap.size,0,none⟩)),.is (.int .i64 n),.is (.pointer (some ⟨w.heap.size,1,none⟩)),.is (.int .i64 d),.is (.int .i64 g),.is (.int .i64 a),.is (.int .i64 a)] (by kernel_rfl) (by kernel_rfl) (by kernel_rfl) ⟨?_,?_,?_,?_,?_,?_,?_,trivial⟩ ?_
 ·intro _ ac_ w_ hB hr
  have e1:ac_.tmps[1]?=some (.pointer (some ⟨w.heap.size,0,none⟩)):=hr 1 (by decide)
  exact Rg.pure1 rfl (by go_simp)
 ·intro _ ac_ w_ hB hr
  have e14:=Rg.ev1 (hr 14 (by decide))
  have k0:=aE hB V.box.c0
  exact Rg.pure1 rfl (by go_simp)
 ·intro _ ac_ w_ hB hr
  have e1:ac_.tmps[1]?=some (.pointer (some ⟨w.heap.size,0,none⟩)):=hr 1 (by decide)
  exact Rg.pure1 rfl (by go_simp)
 ·intro _ ac_ w_ hB hr
  have e16:=Rg.ev1 (hr 16 (by decide))
  have k1:=aE hB V.box.c1
  exact Rg.pure1 rfl (by go_simp)
 ·intro _ ac_ w_ hB hr
  have e17:=Rg.ev1 (hr 17 (by decide))
  have ec:=Rg.ec ac_
  exact Rg.pure1 rfl (by go_simp;first | done | (rw [hq2.out];first | done | rw [hw1.out] | (exact ⟨hd0,by rw [hw1.out]⟩)) | (simp only [hq2.out,hw1.out];done) | (simp [hq2.out,hw1.out,hd0];done))
 ·intro _ ac_ w_ hB hr
  have e15:=Rg.ev1 (hr 15 (by decide))
  have e18:=Rg.ev1 (hr 18 (by decide))
  exact Rg.pure1 rfl (by go_simp;first | done | (rw [hw2.out];done) | exact hw2.out)
 ·intro _ ac_ w_ hB hr
  have e19:=Rg.ev1 (hr 19 (by decide))
  exact Rg.pure1 rfl (by go_simp)
 ·intro vals wz hB hv hne
  have v_6:vals 6=.int .i64 a:=hv 6 (by decide)
  simp only [List.take_succ_cons,List.take_zero,List.drop_succ_cons,List.drop_zero,Rg.fill,if_true,Act.put,List.setIfInBounds_toArray,List.set_cons_zero,List.set_cons_succ,Nat.zero_add,Nat.reduceAdd]
  clear hv
  simp only [v_6]
  clear v_6
  unfold Rg.tailWp
  go_wp2_with (go_at_call 49;(with_reducible refine (PI.out _).mono ?_);rintro e w6 ⟨rfl,rfl⟩)
  go_ret2
  exact ⟨rfl,B.trans (hB.mono B.size)⟩
theorem eo (a b:Int) (w:World) (h1:(M.fmk a 4096).isSome=true) (h2:(M.fmk b 4096).isSome=true) :
  Calls Tryz.prog 90 #[.agg #[.int .i64 (M.pn a),.int .i64 (M.pd a),.int .i64 (M.pn b),.int .i64 (M.pd b)]] w fun e w'=>e=.returned (.bool (M.spanOk a b))∧Below w.heap.size w w':=by
 have P1:=Lib.hid fun W=>dO a W h1
 have P2:=Lib.hid fun W=>dO b W h2
 have hs:M.spanOk a b=(M.ins a (-409600000) 409600000 && M.ins b (-409600000) 409600000 && decide (a≤b)):=by
  rw [Bool.eq_iff_iff]
  unfold M.spanOk M.ins
  simp only [Bool.and_eq_true,decide_eq_true_eq]
  omega
 rw [hs]
 clear hs
 generalize M.pn a=n1 at *
 generalize M.pd a=d1 at *
 generalize M.pn b=n2 at *
 generalize M.pd b=d2 at *
 have V:=aG.new w #[.int .i64 n1,.int .i64 d1,.int .i64 n2,.int .i64 d2] 38
 have B:=(Below.refl w.heap.size w).alloc (Nat.le_refl _) (.cells #[.int .i64 n1,.int .i64 d1,.int .i64 n2,.int .i64 d2] 38)
 generalize hw3:w.alloc (.cells #[.int .i64 n1,.int .i64 d1,.int .i64 n2,.int .i64 d2] 38)=wc at *
 have V_c0:=V.boxQ.c0
 have V_c1:=V.boxQ.c1
 have V_c2:=V.boxQ.c2
 have V_c3:=V.boxQ.c3
 generalize M.ins a (-409600000) 409600000=i1 at *
 generalize M.ins b (-409600000) 409600000=i2 at *
 by_cases hab:a≤b <;> cases i1 <;> cases i2
 all_goals
  go_enter Tryz.func90,Tryz.ntmps90
  go_wp2_with (go_at_call 88;first | ((with_reducible refine (P1.out _).mono ?_);rintro e w4 ⟨rfl,hb4⟩;(have V4:=V.keep hb4);(have B4:=B.trans (hb4.mono B.size));(have y0:=V4.boxQ.c0);(have y1:=V4.boxQ.c1);(have y2:=V4.boxQ.c2);(have y3:=V4.boxQ.c3)) | ((with_reducible refine (P2.out _).mono ?_);rintro e w5 ⟨rfl,hb5⟩;(have B5:=B4.trans (hb5.mono B4.size))))
  all_goals
   go_ret
   exact ⟨by first | rfl | (simp [hab];done) | (exact bB (by simp [hab];done)) | (exact bB (by simp <;> omega)),B5⟩
theorem br (a b:Int) (w:World) (h1:(M.fmk a 4096).isSome=true) (h2:(M.fmk b 4096).isSome=true) :
  Calls Tryz.prog 60 #[.agg #[.int .i64 (M.pn a),.int .i64 (M.pd a),.int .i64 (M.pn b),.int .i64 (M.pd b)]] w fun e w'=>e=.returned (.tuple #[.int .i64 a,.int .i64 b])∧Below w.heap.size w w':=by
 have P1:=Lib.hid fun W=>dO a W h1
 have P2:=Lib.hid fun W=>dO b W h2
 generalize M.pn a=n1 at *
 generalize M.pd a=d1 at *
 generalize M.pn b=n2 at *
 generalize M.pd b=d2 at *
 generalize M.ins a (-409600000) 409600000=i1 at *
 generalize M.ins b (-409600000) 409600000=i2 at *
 have V:=aG.new w #[.int .i64 n1,.int .i64 d1,.int .i64 n2,.int .i64 d2] 38
 have B:=(Below.refl w.heap.size w).alloc (Nat.le_refl _) (.cells #[.int .i64 n1,.int .i64 d1,.int .i64 n2,.int .i64 d2] 38)
 generalize hw3:w.alloc (.cells #[.int .i64 n1,.int .i64 d1,.int .i64 n2,.int .i64 d2] 38)=wc at *
 have V_c0:=V.boxQ.c0
 have V_c1:=V.boxQ.c1
 have V_c2:=V.boxQ.c2
 have V_c3:=V.boxQ.c3
 go_enter Tryz.func60,Tryz.ntmps60
 go_wp2_with (go_at_call 88;first | ((with_reducible refine (P1.out _).mono ?_);rintro e w4 ⟨rfl,hb4⟩;(have V4:=V.keep hb4);(have B4:=B.trans (hb4.mono B.size));(have y0:=V4.boxQ.c0);(have y1:=V4.boxQ.c1);(have y2:=V4.boxQ.c2);(have y3:=V4.boxQ.c3)) | ((with_reducible refine (P2.out _).mono ?_);rintro e w5 ⟨rfl,hb5⟩;(have B5:=B4.trans (hb5.mono B4.size))))
 go_ret2
 exact ⟨rfl,B5⟩
end
section
namespace M
theorem ipow_pos {p:Int} (h:1≤p):∀ k:Nat,1≤ipow p k
 | 0=>by simp [ipow]
 | k+1=>by
  have h1:=ipow_pos h k
  have:=Int.mul_le_mul h1 h (by omega) (by omega)
  simpa [ipow] using this
theorem jr {p:Int} (h:1≤p) (k:Nat):ipow p k≤ipow p (k+1):=by
 have h1:=ipow_pos h k
 have:=Int.mul_le_mul_of_nonneg_left h (show 0≤ipow p k by omega)
 simp only [ipow]
 omega
theorem ipow_mono {p:Int} (h:1≤p) {i j:Nat} (hij:i≤j):ipow p i≤ipow p j:=by
 induction j with
 | zero=>
      obtain rfl:i=0:=by omega
      exact Int.le_refl _
 | succ j ih=>
  rcases Nat.lt_or_ge i (j+1) with q | q
  ·exact Int.le_trans (ih (by omega)) (jr h j)
  ·obtain rfl:i=j+1:=by omega
   exact Int.le_refl _
def mH (p:Int) (d:Nat):Prop:=ipow p d≤1000000000∧1000000000<ipow p (d+1)
theorem mH.le {p:Int} {d j:Nat} (hp:1≤p) (h:mH p d) (hj:j≤d):ipow p j≤1000000000:=Int.le_trans (ipow_mono hp hj) h.1
end M
end
section
open Go.RowKit
theorem gN (p:Int) (k:Nat) (w:World) (p1:1≤p) (hb:M.ipow p k≤4000000000000000000) (hk:k≤1000) :
  Calls Tryz.prog 133 #[.int .i64 p,.int .i64 k] w fun e w'=>e=.returned (.int .i64 (M.ipow p k))∧w=w':=by
 go_enter Tryz.func133,Tryz.ntmps133
 go_wp2
 go_loop [5,7] (fun vo vi=>∃ j:Nat,j≤k∧vi=.int .i64 j∧vo=.int .i64 (M.ipow p j)) (fun _ vi=>(k - (intOf vi).toNat))
 case atStart=>exact ⟨0,by omega,rfl,rfl⟩
 case round=>
  obtain ⟨j,hj,rfl,rfl⟩:=hrel
  by_cases hlt:j<k
  ·have h1:=M.ipow_pos p1 j
   have h2:=M.ipow_mono p1 (show j+1≤k from hlt)
   have h3:M.ipow p j*p≤4000000000000000000:=Int.le_trans h2 hb
   have h4:0≤M.ipow p j*p:=Int.mul_nonneg (by omega) (by omega)
   go_wp2
   go_round
   case rel=>exact ⟨j+1,by omega,by go_num,rfl⟩
   case measure=>simp [intOf];omega
  ·obtain rfl:j=k:=by omega
   go_wp2
   go_ret
   exact ⟨rfl,rfl⟩
theorem fY (a b:Int) (w:World) :
  Calls Tryz.prog 62 #[.int .i64 a,.int .i64 b] w fun e w'=>e=.returned (.int .i64 (min a b))∧w=w':=by
 by_cases h:a<b
 ·have h2:min a b=a:=by omega
  rw [h2]
  go_enter Tryz.func62,Tryz.ntmps62
  go_wp2
  go_ret;exact ⟨rfl,rfl⟩
 ·have h2:min a b=b:=by omega
  rw [h2]
  go_enter Tryz.func62,Tryz.ntmps62
  go_wp2
  go_ret;exact ⟨rfl,rfl⟩
theorem M.spanNo {a b:Int} (h:(M.fmk a 4096).isSome=false∨(M.fmk b 4096).isSome=false):M.spanOk a b=false:=by
 cases hs:M.spanOk a b with
 | false=>rfl
 | true=>
  obtain ⟨h1,h2,h3⟩:=M.spanOk_bd hs
  rw [M.fmk_near (by omega) (by omega),M.fmk_near (by omega) (by omega)] at h
  simp at h
theorem dC (a b:Int) (w:World) (h1:-4000000000000000000≤a) (h2:a≤4000000000000000000) (h3:-4000000000000000000≤b) (h4:b≤4000000000000000000) :
  Calls Tryz.prog 61 #[.int .i64 a,.int .i64 b] w fun e w'=>e=.returned (.tuple #[.agg #[.int .i64 (M.pick (M.spanOk (a) (b)) (M.pn (a))),.int .i64 (M.pick (M.spanOk (a) (b)) (M.pd (a))),.int .i64 (M.pick (M.spanOk (a) (b)) (M.pn (b))),.int .i64 (M.pick (M.spanOk (a) (b)) (M.pd (b)))],.bool (M.spanOk (a) (b))])∧Below w.heap.size w w':=by
 have P1:=fun W=>gw a 4096 W h1 h2 (by omega) (by omega) (by omega)
 have P2:=fun W=>gw b 4096 W h3 h4 (by omega) (by omega) (by omega)
 have PG:=fun W (q1:(M.fmk a 4096).isSome=true) (q2:(M.fmk b 4096).isSome=true)=>eo a b W q1 q2
 have hno:=@M.spanNo a b
 have e1:=Lib.hid (show M.pn a=M.fN (M.fmk a 4096) from rfl)
 have e2:=Lib.hid (show M.pd a=M.fD (M.fmk a 4096) from rfl)
 have e3:=Lib.hid (show M.pn b=M.fN (M.fmk b 4096) from rfl)
 have e4:=Lib.hid (show M.pd b=M.fD (M.fmk b 4096) from rfl)
 rw [e1.out,e2.out,e3.out,e4.out] at PG ⊢
 clear e1 e2 e3 e4
 generalize (M.fmk a 4096).isSome=o1 at *
 generalize (M.fmk b 4096).isSome=o2 at *
 generalize M.fN (M.fmk a 4096)=p1 at *
 generalize M.fD (M.fmk a 4096)=p2 at *
 generalize M.fN (M.fmk b 4096)=p3 at *
 generalize M.fD (M.fmk b 4096)=p4 at *
 replace P1:=Lib.hid P1
 replace P2:=Lib.hid P2
 have R:=aG.new w #[.int .i64 0,.int .i64 0,.int .i64 0,.int .i64 0] 38
 have B:=(Below.refl w.heap.size w).alloc (Nat.le_refl _) (.cells #[.int .i64 0,.int .i64 0,.int .i64 0,.int .i64 0] 38)
 generalize hw3:w.alloc (.cells #[.int .i64 0,.int .i64 0,.int .i64 0,.int .i64 0] 38)=wc at *
 cases o1 with
 | false=>
  rw [hno (Or.inl rfl)]
  clear hno PG
  go_enter Tryz.func61,Tryz.ntmps61
  go_wp2_with (first
   | (go_at_call 89;(with_reducible refine (P1.out _).mono ?_);rintro e w4 ⟨rfl,hb4⟩;(replace R:=R.keep hb4);(replace B:=B.trans (hb4.mono B.size));(have F:=aG.new w4 #[.int .i64 p1,.int .i64 p2] 36);(have b_:=bA w4 (.cells #[.int .i64 p1,.int .i64 p2] 36));(replace R:=R.keep b_);(replace B:=B.trans (b_.mono B.size));(clear b_);(replace ⟨R_c0,R_c1,R_c2,R_c3,R_f0,R_f1,R_f2,R_f3⟩:=R.b4f);(replace ⟨F_c0,F_c1⟩:=F.b2))
   | (go_at_call 89;(with_reducible refine (P2.out _).mono ?_);rintro e w5 ⟨rfl,hb5⟩;(replace R:=R.keep hb5);(replace F:=F.keep hb5);(replace B:=B.trans (hb5.mono B.size));(have G:=aG.new w5 #[.int .i64 p3,.int .i64 p4] 36);(have b_:=bA w5 (.cells #[.int .i64 p3,.int .i64 p4] 36));(replace R:=R.keep b_);(replace F:=F.keep b_);(replace B:=B.trans (b_.mono B.size));(clear b_);(replace ⟨R_c0,R_c1,R_c2,R_c3,R_f0,R_f1,R_f2,R_f3⟩:=R.b4f);(replace ⟨F_c0,F_c1⟩:=F.b2);(replace ⟨G_c0,G_c1⟩:=G.b2);(have O:=aG.new (w5.alloc (.cells #[.int .i64 p3,.int .i64 p4] 36)) #[.int .i64 p1,.int .i64 p2,.int .i64 p3,.int .i64 p4] 38);(have b_:=bA (w5.alloc (.cells #[.int .i64 p3,.int .i64 p4] 36)) (.cells #[.int .i64 p1,.int .i64 p2,.int .i64 p3,.int .i64 p4] 38));(replace R:=R.keep b_);(replace F:=F.keep b_);(replace G:=G.keep b_);(replace B:=B.trans (b_.mono B.size));(clear b_);(rw [World.size_alloc] at O);(have O_c0:=O.boxQ.c0);(have O_c1:=O.boxQ.c1);(have O_c2:=O.boxQ.c2);(have O_c3:=O.boxQ.c3);(have R_c0:=R.boxQ.c0);(have R_c1:=R.boxQ.c1);(have R_c2:=R.boxQ.c2);(have R_c3:=R.boxQ.c3);(have R_f0:=R.boxQ.f0);(have R_f1:=R.boxQ.f1);(have R_f2:=R.boxQ.f2);(have R_f3:=R.boxQ.f3)))
  exact bodyPost_ret (v:=.tuple #[.agg #[.int .i64 0,.int .i64 0,.int .i64 0,.int .i64 0],.bool false]) (by simp [results,Tryz.results61,go_sem, *]) rfl (⟨rfl,Below.setCell (Below.setCell (Below.setCell (Below.setCell B (by simp <;> omega) _) (by simp <;> omega) _) (by simp <;> omega) _) (by simp <;> omega) _⟩)
 | true=>
  cases o2 with
  | false=>
   rw [hno (Or.inr rfl)]
   clear hno PG
   go_enter Tryz.func61,Tryz.ntmps61
   go_wp2_with (first
    | (go_at_call 89;(with_reducible refine (P1.out _).mono ?_);rintro e w4 ⟨rfl,hb4⟩;(replace R:=R.keep hb4);(replace B:=B.trans (hb4.mono B.size));(have F:=aG.new w4 #[.int .i64 p1,.int .i64 p2] 36);(have b_:=bA w4 (.cells #[.int .i64 p1,.int .i64 p2] 36));(replace R:=R.keep b_);(replace B:=B.trans (b_.mono B.size));(clear b_);(replace ⟨R_c0,R_c1,R_c2,R_c3,R_f0,R_f1,R_f2,R_f3⟩:=R.b4f);(replace ⟨F_c0,F_c1⟩:=F.b2))
    | (go_at_call 89;(with_reducible refine (P2.out _).mono ?_);rintro e w5 ⟨rfl,hb5⟩;(replace R:=R.keep hb5);(replace F:=F.keep hb5);(replace B:=B.trans (hb5.mono B.size));(have G:=aG.new w5 #[.int .i64 p3,.int .i64 p4] 36);(have b_:=bA w5 (.cells #[.int .i64 p3,.int .i64 p4] 36));(replace R:=R.keep b_);(replace F:=F.keep b_);(replace B:=B.trans (b_.mono B.size));(clear b_);(replace ⟨R_c0,R_c1,R_c2,R_c3,R_f0,R_f1,R_f2,R_f3⟩:=R.b4f);(replace ⟨F_c0,F_c1⟩:=F.b2);(replace ⟨G_c0,G_c1⟩:=G.b2);(have O:=aG.new (w5.alloc (.cells #[.int .i64 p3,.int .i64 p4] 36)) #[.int .i64 p1,.int .i64 p2,.int .i64 p3,.int .i64 p4] 38);(have b_:=bA (w5.alloc (.cells #[.int .i64 p3,.int .i64 p4] 36)) (.cells #[.int .i64 p1,.int .i64 p2,.int .i64 p3,.int .i64 p4] 38));(replace R:=R.keep b_);(replace F:=F.keep b_);(replace G:=G.keep b_);(replace B:=B.trans (b_.mono B.size));(clear b_);(rw [World.size_alloc] at O);(have O_c0:=O.boxQ.c0);(have O_c1:=O.boxQ.c1);(have O_c2:=O.boxQ.c2);(have O_c3:=O.boxQ.c3);(have R_c0:=R.boxQ.c0);(have R_c1:=R.boxQ.c1);(have R_c2:=R.boxQ.c2);(have R_c3:=R.boxQ.c3);(have R_f0:=R.boxQ.f0);(have R_f1:=R.boxQ.f1);(have R_f2:=R.boxQ.f2);(have R_f3:=R.boxQ.f3)))
   exact bodyPost_ret (v:=.tuple #[.agg #[.int .i64 0,.int .i64 0,.int .i64 0,.int .i64 0],.bool false]) (by simp [results,Tryz.results61,go_sem, *]) rfl (⟨rfl,Below.setCell (Below.setCell (Below.setCell (Below.setCell B (by simp <;> omega) _) (by simp <;> omega) _) (by simp <;> omega) _) (by simp <;> omega) _⟩)
  | true=>
   have PG2:=fun W=>PG W rfl rfl
   clear PG hno
   cases hs:M.spanOk a b with
   | true=>
    rw [hs] at PG2
    replace PG2:=Lib.hid PG2
    clear hs
    go_enter Tryz.func61,Tryz.ntmps61
    go_wp2_with (first
     | (go_at_call 89;(with_reducible refine (P1.out _).mono ?_);rintro e w4 ⟨rfl,hb4⟩;(replace R:=R.keep hb4);(replace B:=B.trans (hb4.mono B.size));(have F:=aG.new w4 #[.int .i64 p1,.int .i64 p2] 36);(have b_:=bA w4 (.cells #[.int .i64 p1,.int .i64 p2] 36));(replace R:=R.keep b_);(replace B:=B.trans (b_.mono B.size));(clear b_);(replace ⟨R_c0,R_c1,R_c2,R_c3,R_f0,R_f1,R_f2,R_f3⟩:=R.b4f);(replace ⟨F_c0,F_c1⟩:=F.b2))
     | (go_at_call 89;(with_reducible refine (P2.out _).mono ?_);rintro e w5 ⟨rfl,hb5⟩;(replace R:=R.keep hb5);(replace F:=F.keep hb5);(replace B:=B.trans (hb5.mono B.size));(have G:=aG.new w5 #[.int .i64 p3,.int .i64 p4] 36);(have b_:=bA w5 (.cells #[.int .i64 p3,.int .i64 p4] 36));(replace R:=R.keep b_);(replace F:=F.keep b_);(replace B:=B.trans (b_.mono B.size));(clear b_);(replace ⟨R_c0,R_c1,R_c2,R_c3,R_f0,R_f1,R_f2,R_f3⟩:=R.b4f);(replace ⟨F_c0,F_c1⟩:=F.b2);(replace ⟨G_c0,G_c1⟩:=G.b2);(have O:=aG.new (w5.alloc (.cells #[.int .i64 p3,.int .i64 p4] 36)) #[.int .i64 p1,.int .i64 p2,.int .i64 p3,.int .i64 p4] 38);(have b_:=bA (w5.alloc (.cells #[.int .i64 p3,.int .i64 p4] 36)) (.cells #[.int .i64 p1,.int .i64 p2,.int .i64 p3,.int .i64 p4] 38));(replace R:=R.keep b_);(replace F:=F.keep b_);(replace G:=G.keep b_);(replace B:=B.trans (b_.mono B.size));(clear b_);(rw [World.size_alloc] at O);(have O_c0:=O.boxQ.c0);(have O_c1:=O.boxQ.c1);(have O_c2:=O.boxQ.c2);(have O_c3:=O.boxQ.c3);(have R_c0:=R.boxQ.c0);(have R_c1:=R.boxQ.c1);(have R_c2:=R.boxQ.c2);(have R_c3:=R.boxQ.c3);(have R_f0:=R.boxQ.f0);(have R_f1:=R.boxQ.f1);(have R_f2:=R.boxQ.f2);(have R_f3:=R.boxQ.f3))
     | (go_at_call 90;(with_reducible refine (PG2.out _).mono ?_);rintro e w6 ⟨rfl,hb6⟩;(replace R:=R.keep hb6);(replace F:=F.keep hb6);(replace G:=G.keep hb6);(replace O:=O.keep hb6);(replace B:=B.trans (hb6.mono B.size));(replace ⟨R_c0,R_c1,R_c2,R_c3,R_f0,R_f1,R_f2,R_f3⟩:=R.b4f);(replace ⟨F_c0,F_c1⟩:=F.b2);(replace ⟨G_c0,G_c1⟩:=G.b2);(replace ⟨O_c0,O_c1,O_c2,O_c3⟩:=O.b4)))
    exact bodyPost_ret (v:=.tuple #[.agg #[.int .i64 p1,.int .i64 p2,.int .i64 p3,.int .i64 p4],.bool true]) (by simp [results,Tryz.results61,go_sem, *]) rfl (⟨rfl,Below.setCell (Below.setCell (Below.setCell (Below.setCell B (by simp <;> omega) _) (by simp <;> omega) _) (by simp <;> omega) _) (by simp <;> omega) _⟩)
   | false=>
    rw [hs] at PG2
    replace PG2:=Lib.hid PG2
    clear hs
    go_enter Tryz.func61,Tryz.ntmps61
    go_wp2_with (first
     | (go_at_call 89;(with_reducible refine (P1.out _).mono ?_);rintro e w4 ⟨rfl,hb4⟩;(replace R:=R.keep hb4);(replace B:=B.trans (hb4.mono B.size));(have F:=aG.new w4 #[.int .i64 p1,.int .i64 p2] 36);(have b_:=bA w4 (.cells #[.int .i64 p1,.int .i64 p2] 36));(replace R:=R.keep b_);(replace B:=B.trans (b_.mono B.size));(clear b_);(replace ⟨R_c0,R_c1,R_c2,R_c3,R_f0,R_f1,R_f2,R_f3⟩:=R.b4f);(replace ⟨F_c0,F_c1⟩:=F.b2))
     | (go_at_call 89;(with_reducible refine (P2.out _).mono ?_);rintro e w5 ⟨rfl,hb5⟩;(replace R:=R.keep hb5);(replace F:=F.keep hb5);(replace B:=B.trans (hb5.mono B.size));(have G:=aG.new w5 #[.int .i64 p3,.int .i64 p4] 36);(have b_:=bA w5 (.cells #[.int .i64 p3,.int .i64 p4] 36));(replace R:=R.keep b_);(replace F:=F.keep b_);(replace B:=B.trans (b_.mono B.size));(clear b_);(replace ⟨R_c0,R_c1,R_c2,R_c3,R_f0,R_f1,R_f2,R_f3⟩:=R.b4f);(replace ⟨F_c0,F_c1⟩:=F.b2);(replace ⟨G_c0,G_c1⟩:=G.b2);(have O:=aG.new (w5.alloc (.cells #[.int .i64 p3,.int .i64 p4] 36)) #[.int .i64 p1,.int .i64 p2,.int .i64 p3,.int .i64 p4] 38);(have b_:=bA (w5.alloc (.cells #[.int .i64 p3,.int .i64 p4] 36)) (.cells #[.int .i64 p1,.int .i64 p2,.int .i64 p3,.int .i64 p4] 38));(replace R:=R.keep b_);(replace F:=F.keep b_);(replace G:=G.keep b_);(replace B:=B.trans (b_.mono B.size));(clear b_);(rw [World.size_alloc] at O);(have O_c0:=O.boxQ.c0);(have O_c1:=O.boxQ.c1);(have O_c2:=O.boxQ.c2);(have O_c3:=O.boxQ.c3);(have R_c0:=R.boxQ.c0);(have R_c1:=R.boxQ.c1);(have R_c2:=R.boxQ.c2);(have R_c3:=R.boxQ.c3);(have R_f0:=R.boxQ.f0);(have R_f1:=R.boxQ.f1);(have R_f2:=R.boxQ.f2);(have R_f3:=R.boxQ.f3))
     | (go_at_call 90;(with_reducible refine (PG2.out _).mono ?_);rintro e w6 ⟨rfl,hb6⟩;(replace R:=R.keep hb6);(replace F:=F.keep hb6);(replace G:=G.keep hb6);(replace O:=O.keep hb6);(replace B:=B.trans (hb6.mono B.size));(replace ⟨R_c0,R_c1,R_c2,R_c3,R_f0,R_f1,R_f2,R_f3⟩:=R.b4f);(replace ⟨F_c0,F_c1⟩:=F.b2);(replace ⟨G_c0,G_c1⟩:=G.b2);(replace ⟨O_c0,O_c1,O_c2,O_c3⟩:=O.b4)))
    exact bodyPost_ret (v:=.tuple #[.agg #[.int .i64 0,.int .i64 0,.int .i64 0,.int .i64 0],.bool false]) (by simp [results,Tryz.results61,go_sem, *]) rfl (⟨rfl,Below.setCell (Below.setCell (Below.setCell (Below.setCell B (by simp <;> omega) _) (by simp <;> omega) _) (by simp <;> omega) _) (by simp <;> omega) _⟩)
theorem lW (a b c d:Int) (w:World) (hab:M.spanOk a b=true) (hcd:M.spanOk c d=true) :
  Calls Tryz.prog 36 #[.agg #[.int .i64 (M.pn a),.int .i64 (M.pd a),.int .i64 (M.pn b),.int .i64 (M.pd b)],.agg #[.int .i64 (M.pn c),.int .i64 (M.pd c),.int .i64 (M.pn d),.int .i64 (M.pd d)]] w fun e w'=>e=.returned (.tuple #[.agg #[.int .i64 (M.pick (M.spanOk (a+c) (b+d)) (M.pn (a+c))),.int .i64 (M.pick (M.spanOk (a+c) (b+d)) (M.pd (a+c))),.int .i64 (M.pick (M.spanOk (a+c) (b+d)) (M.pn (b+d))),.int .i64 (M.pick (M.spanOk (a+c) (b+d)) (M.pd (b+d)))],.bool (M.spanOk (a+c) (b+d))])∧Below w.heap.size w w':=by
 obtain ⟨ab,a1,b1⟩:=M.spanOk_bd hab
 obtain ⟨cd,c1,d1⟩:=M.spanOk_bd hcd
 have E1:=fun W=>br a b W (M.fmk_near (by omega) (by omega)) (M.fmk_near (by omega) (by omega))
 have E2:=fun W=>br c d W (M.fmk_near (by omega) (by omega)) (M.fmk_near (by omega) (by omega))
 have PM:=fun W=>dC (a+c) (b+d) W (by omega) (by omega) (by omega) (by omega)
 generalize M.pick (M.spanOk (a+c) (b+d)) (M.pn (a+c))=p1 at *
 generalize M.pick (M.spanOk (a+c) (b+d)) (M.pd (a+c))=p2 at *
 generalize M.pick (M.spanOk (a+c) (b+d)) (M.pn (b+d))=p3 at *
 generalize M.pick (M.spanOk (a+c) (b+d)) (M.pd (b+d))=p4 at *
 generalize M.spanOk (a+c) (b+d)=s at *
 replace PM:=Lib.hid PM
 replace E1:=Lib.hid E1
 replace E2:=Lib.hid E2
 generalize hn1:M.pn a=n1 at *
 generalize hd1:M.pd a=d1 at *
 generalize hn2:M.pn b=n2 at *
 generalize hd2:M.pd b=d2 at *
 generalize hn3:M.pn c=n3 at *
 generalize hd3:M.pd c=d3 at *
 generalize hn4:M.pn d=n4 at *
 generalize hd4:M.pd d=d4 at *
 clear hn1 hn2 hn3 hn4 hd1 hd2 hd3 hd4
 have V:=((aG.new w #[.int .i64 n1,.int .i64 d1,.int .i64 n2,.int .i64 d2] 38).alloc (.cells #[.int .i64 n3,.int .i64 d3,.int .i64 n4,.int .i64 d4] 38)).alloc (.cells #[.int .i64 0,.int .i64 0,.int .i64 0,.int .i64 0] 38)
 have U:=(aG.new (w.alloc (.cells #[.int .i64 n1,.int .i64 d1,.int .i64 n2,.int .i64 d2] 38)) #[.int .i64 n3,.int .i64 d3,.int .i64 n4,.int .i64 d4] 38).alloc (.cells #[.int .i64 0,.int .i64 0,.int .i64 0,.int .i64 0] 38)
 rw [World.size_alloc] at U
 have R:=aG.new ((w.alloc (.cells #[.int .i64 n1,.int .i64 d1,.int .i64 n2,.int .i64 d2] 38)).alloc (.cells #[.int .i64 n3,.int .i64 d3,.int .i64 n4,.int .i64 d4] 38)) #[.int .i64 0,.int .i64 0,.int .i64 0,.int .i64 0] 38
 rw [World.size_alloc,World.size_alloc] at R
 have B:=(((Below.refl w.heap.size w).alloc (Nat.le_refl _) (.cells #[.int .i64 n1,.int .i64 d1,.int .i64 n2,.int .i64 d2] 38)).alloc (by rw [World.size_alloc];omega) (.cells #[.int .i64 n3,.int .i64 d3,.int .i64 n4,.int .i64 d4] 38)).alloc (by rw [World.size_alloc,World.size_alloc];omega) (.cells #[.int .i64 0,.int .i64 0,.int .i64 0,.int .i64 0] 38)
 generalize hw3:((w.alloc (.cells #[.int .i64 n1,.int .i64 d1,.int .i64 n2,.int .i64 d2] 38)).alloc (.cells #[.int .i64 n3,.int .i64 d3,.int .i64 n4,.int .i64 d4] 38)).alloc (.cells #[.int .i64 0,.int .i64 0,.int .i64 0,.int .i64 0] 38)=wc at *
 have V_c0:=V.boxQ.c0
 have V_c1:=V.boxQ.c1
 have V_c2:=V.boxQ.c2
 have V_c3:=V.boxQ.c3
 have U_c0:=U.boxQ.c0
 have U_c1:=U.boxQ.c1
 have U_c2:=U.boxQ.c2
 have U_c3:=U.boxQ.c3
 have R_c0:=R.boxQ.c0
 have R_c1:=R.boxQ.c1
 have R_c2:=R.boxQ.c2
 have R_c3:=R.boxQ.c3
 go_enter Tryz.func36,Tryz.ntmps36
 go_wp2_with (first
  | (go_at_call 60;(with_reducible refine (E1.out _).mono ?_);rintro e w4 ⟨rfl,hb4⟩;(replace V:=V.keep hb4);(replace U:=U.keep hb4);(replace R:=R.keep hb4);(replace B:=B.trans (hb4.mono B.size));(replace ⟨V_c0,V_c1,V_c2,V_c3⟩:=V.b4);(replace ⟨U_c0,U_c1,U_c2,U_c3⟩:=U.b4);(replace ⟨R_c0,R_c1,R_c2,R_c3,R_f0,R_f1,R_f2,R_f3⟩:=R.b4f))
  | (go_at_call 60;(with_reducible refine (E2.out _).mono ?_);rintro e w5 ⟨rfl,hb5⟩;(replace V:=V.keep hb5);(replace U:=U.keep hb5);(replace R:=R.keep hb5);(replace B:=B.trans (hb5.mono B.size));(replace ⟨V_c0,V_c1,V_c2,V_c3⟩:=V.b4);(replace ⟨U_c0,U_c1,U_c2,U_c3⟩:=U.b4);(replace ⟨R_c0,R_c1,R_c2,R_c3,R_f0,R_f1,R_f2,R_f3⟩:=R.b4f))
  | (go_at_call 61;(with_reducible refine (PM.out _).mono ?_);rintro e w6 ⟨rfl,hb6⟩;(replace V:=V.keep hb6);(replace U:=U.keep hb6);(replace R:=R.keep hb6);(replace B:=B.trans (hb6.mono B.size));(replace ⟨V_c0,V_c1,V_c2,V_c3⟩:=V.b4);(replace ⟨U_c0,U_c1,U_c2,U_c3⟩:=U.b4);(replace ⟨R_c0,R_c1,R_c2,R_c3,R_f0,R_f1,R_f2,R_f3⟩:=R.b4f)))
 exact bodyPost_ret (v:=.tuple #[.agg #[.int .i64 p1,.int .i64 p2,.int .i64 p3,.int .i64 p4],.bool s]) (by simp [results,Tryz.results36,go_sem, *]) rfl (⟨rfl,Below.setCell (Below.setCell (Below.setCell (Below.setCell B (by simp <;> omega) _) (by simp <;> omega) _) (by simp <;> omega) _) (by simp <;> omega) _⟩)
theorem lj (a b c d:Int) (w:World) (hab:M.spanOk a b=true) (hcd:M.spanOk c d=true) :
  Calls Tryz.prog 78 #[.agg #[.int .i64 (M.pn a),.int .i64 (M.pd a),.int .i64 (M.pn b),.int .i64 (M.pd b)],.agg #[.int .i64 (M.pn c),.int .i64 (M.pd c),.int .i64 (M.pn d),.int .i64 (M.pd d)]] w fun e w'=>e=.returned (.tuple #[.agg #[.int .i64 (M.pick (M.spanOk (a - d) (b - c)) (M.pn (a - d))),.int .i64 (M.pick (M.spanOk (a - d) (b - c)) (M.pd (a - d))),.int .i64 (M.pick (M.spanOk (a - d) (b - c)) (M.pn (b - c))),.int .i64 (M.pick (M.spanOk (a - d) (b - c)) (M.pd (b - c)))],.bool (M.spanOk (a - d) (b - c))])∧Below w.heap.size w w':=by
 obtain ⟨ab,a1,b1⟩:=M.spanOk_bd hab
 obtain ⟨cd,c1,d1⟩:=M.spanOk_bd hcd
 have E1:=fun W=>br a b W (M.fmk_near (by omega) (by omega)) (M.fmk_near (by omega) (by omega))
 have E2:=fun W=>br c d W (M.fmk_near (by omega) (by omega)) (M.fmk_near (by omega) (by omega))
 have PM:=fun W=>dC (a - d) (b - c) W (by omega) (by omega) (by omega) (by omega)
 generalize M.pick (M.spanOk (a - d) (b - c)) (M.pn (a - d))=p1 at *
 generalize M.pick (M.spanOk (a - d) (b - c)) (M.pd (a - d))=p2 at *
 generalize M.pick (M.spanOk (a - d) (b - c)) (M.pn (b - c))=p3 at *
 generalize M.pick (M.spanOk (a - d) (b - c)) (M.pd (b - c))=p4 at *
 generalize M.spanOk (a - d) (b - c)=s at *
 replace PM:=Lib.hid PM
 replace E1:=Lib.hid E1
 replace E2:=Lib.hid E2
 generalize hn1:M.pn a=n1 at *
 generalize hd1:M.pd a=d1 at *
 generalize hn2:M.pn b=n2 at *
 generalize hd2:M.pd b=d2 at *
 generalize hn3:M.pn c=n3 at *
 generalize hd3:M.pd c=d3 at *
 generalize hn4:M.pn d=n4 at *
 generalize hd4:M.pd d=d4 at *
 clear hn1 hn2 hn3 hn4 hd1 hd2 hd3 hd4
 have V:=((aG.new w #[.int .i64 n1,.int .i64 d1,.int .i64 n2,.int .i64 d2] 38).alloc (.cells #[.int .i64 n3,.int .i64 d3,.int .i64 n4,.int .i64 d4] 38)).alloc (.cells #[.int .i64 0,.int .i64 0,.int .i64 0,.int .i64 0] 38)
 have U:=(aG.new (w.alloc (.cells #[.int .i64 n1,.int .i64 d1,.int .i64 n2,.int .i64 d2] 38)) #[.int .i64 n3,.int .i64 d3,.int .i64 n4,.int .i64 d4] 38).alloc (.cells #[.int .i64 0,.int .i64 0,.int .i64 0,.int .i64 0] 38)
 rw [World.size_alloc] at U
 have R:=aG.new ((w.alloc (.cells #[.int .i64 n1,.int .i64 d1,.int .i64 n2,.int .i64 d2] 38)).alloc (.cells #[.int .i64 n3,.int .i64 d3,.int .i64 n4,.int .i64 d4] 38)) #[.int .i64 0,.int .i64 0,.int .i64 0,.int .i64 0] 38
 rw [World.size_alloc,World.size_alloc] at R
 have B:=(((Below.refl w.heap.size w).alloc (Nat.le_refl _) (.cells #[.int .i64 n1,.int .i64 d1,.int .i64 n2,.int .i64 d2] 38)).alloc (by rw [World.size_alloc];omega) (.cells #[.int .i64 n3,.int .i64 d3,.int .i64 n4,.int .i64 d4] 38)).alloc (by rw [World.size_alloc,World.size_alloc];omega) (.cells #[.int .i64 0,.int .i64 0,.int .i64 0,.int .i64 0] 38)
 generalize hw3:((w.alloc (.cells #[.int .i64 n1,.int .i64 d1,.int .i64 n2,.int .i64 d2] 38)).alloc (.cells #[.int .i64 n3,.int .i64 d3,.int .i64 n4,.int .i64 d4] 38)).alloc (.cells #[.int .i64 0,.int .i64 0,.int .i64 0,.int .i64 0] 38)=wc at *
 have V_c0:=V.boxQ.c0
 have V_c1:=V.boxQ.c1
 have V_c2:=V.boxQ.c2
 have V_c3:=V.boxQ.c3
 have U_c0:=U.boxQ.c0
 have U_c1:=U.boxQ.c1
 have U_c2:=U.boxQ.c2
 have U_c3:=U.boxQ.c3
 have R_c0:=R.boxQ.c0
 have R_c1:=R.boxQ.c1
 have R_c2:=R.boxQ.c2
 have R_c3:=R.boxQ.c3
 go_enter Tryz.func78,Tryz.ntmps78
 go_wp2_with (first
  | (go_at_call 60;(with_reducible refine (E1.out _).mono ?_);rintro e w4 ⟨rfl,hb4⟩;(replace V:=V.keep hb4);(replace U:=U.keep hb4);(replace R:=R.keep hb4);(replace B:=B.trans (hb4.mono B.size));(replace ⟨V_c0,V_c1,V_c2,V_c3⟩:=V.b4);(replace ⟨U_c0,U_c1,U_c2,U_c3⟩:=U.b4);(replace ⟨R_c0,R_c1,R_c2,R_c3,R_f0,R_f1,R_f2,R_f3⟩:=R.b4f))
  | (go_at_call 60;(with_reducible refine (E2.out _).mono ?_);rintro e w5 ⟨rfl,hb5⟩;(replace V:=V.keep hb5);(replace U:=U.keep hb5);(replace R:=R.keep hb5);(replace B:=B.trans (hb5.mono B.size));(replace ⟨V_c0,V_c1,V_c2,V_c3⟩:=V.b4);(replace ⟨U_c0,U_c1,U_c2,U_c3⟩:=U.b4);(replace ⟨R_c0,R_c1,R_c2,R_c3,R_f0,R_f1,R_f2,R_f3⟩:=R.b4f))
  | (go_at_call 61;(with_reducible refine (PM.out _).mono ?_);rintro e w6 ⟨rfl,hb6⟩;(replace V:=V.keep hb6);(replace U:=U.keep hb6);(replace R:=R.keep hb6);(replace B:=B.trans (hb6.mono B.size));(replace ⟨V_c0,V_c1,V_c2,V_c3⟩:=V.b4);(replace ⟨U_c0,U_c1,U_c2,U_c3⟩:=U.b4);(replace ⟨R_c0,R_c1,R_c2,R_c3,R_f0,R_f1,R_f2,R_f3⟩:=R.b4f)))
 exact bodyPost_ret (v:=.tuple #[.agg #[.int .i64 p1,.int .i64 p2,.int .i64 p3,.int .i64 p4],.bool s]) (by simp [results,Tryz.results78,go_sem, *]) rfl (⟨rfl,Below.setCell (Below.setCell (Below.setCell (Below.setCell B (by simp <;> omega) _) (by simp <;> omega) _) (by simp <;> omega) _) (by simp <;> omega) _⟩)
theorem mG (a b c d:Int) (w:World) (hab:M.spanOk a b=true) (hcd:M.spanOk c d=true) :
  Calls Tryz.prog 130 #[.agg #[.int .i64 (M.pn a),.int .i64 (M.pd a),.int .i64 (M.pn b),.int .i64 (M.pd b)],.agg #[.int .i64 (M.pn c),.int .i64 (M.pd c),.int .i64 (M.pn d),.int .i64 (M.pd d)]] w fun e w'=>e=.returned (.bool true)∧Below w.heap.size w w':=by
 obtain ⟨ab,a1,b1⟩:=M.spanOk_bd hab
 obtain ⟨cd,c1,d1⟩:=M.spanOk_bd hcd
 have E1:=fun W=>eo a b W (M.fmk_near (by omega) (by omega)) (M.fmk_near (by omega) (by omega))
 have E2:=fun W=>eo c d W (M.fmk_near (by omega) (by omega)) (M.fmk_near (by omega) (by omega))
 rw [hab] at E1
 rw [hcd] at E2
 generalize M.pn a=n1 at *
 generalize M.pd a=d1 at *
 generalize M.pn b=n2 at *
 generalize M.pd b=d2 at *
 generalize M.pn c=n3 at *
 generalize M.pd c=d3 at *
 generalize M.pn d=n4 at *
 generalize M.pd d=d4 at *
 replace E1:=Lib.hid E1
 replace E2:=Lib.hid E2
 clear hab hcd
 have U:=aG.new (w.alloc (.cells #[.int .i64 n1,.int .i64 d1,.int .i64 n2,.int .i64 d2] 38)) #[.int .i64 n3,.int .i64 d3,.int .i64 n4,.int .i64 d4] 38
 rw [World.size_alloc] at U
 have B:=((Below.refl w.heap.size w).alloc (Nat.le_refl _) (.cells #[.int .i64 n1,.int .i64 d1,.int .i64 n2,.int .i64 d2] 38)).alloc (by rw [World.size_alloc];omega) (.cells #[.int .i64 n3,.int .i64 d3,.int .i64 n4,.int .i64 d4] 38)
 go_enter Tryz.func130,Tryz.ntmps130
 go_wp2_with (go_at_call 90;first | ((with_reducible refine (E1.out _).mono ?_);rintro e w4 ⟨rfl,hb4⟩;(have U4:=U.keep hb4);(have B4:=B.trans (hb4.mono B.size));(have y0:=U4.boxQ.c0);(have y1:=U4.boxQ.c1);(have y2:=U4.boxQ.c2);(have y3:=U4.boxQ.c3)) | ((with_reducible refine (E2.out _).mono ?_);rintro e w5 ⟨rfl,hb5⟩;(have B5:=B4.trans (hb5.mono B4.size))))
 go_ret
 exact ⟨rfl,B5⟩
theorem f8 (a b c d:Int) (w:World) (hab:M.spanOk a b=true) (hcd:M.spanOk c d=true) :
  Calls Tryz.prog 117 #[.agg #[.int .i64 (M.pn a),.int .i64 (M.pd a),.int .i64 (M.pn b),.int .i64 (M.pd b)],.agg #[.int .i64 (M.pn c),.int .i64 (M.pd c),.int .i64 (M.pn d),.int .i64 (M.pd d)]] w fun e w'=>e=.returned (.tuple #[.agg #[.int .i64 (M.pick (M.spanOk (max a c) (min b d)) (M.pn (max a c))),.int .i64 (M.pick (M.spanOk (max a c) (min b d)) (M.pd (max a c))),.int .i64 (M.pick (M.spanOk (max a c) (min b d)) (M.pn (min b d))),.int .i64 (M.pick (M.spanOk (max a c) (min b d)) (M.pd (min b d)))],.bool (M.spanOk (max a c) (min b d))])∧Below w.heap.size w w':=by
 obtain ⟨ab,a1,b1⟩:=M.spanOk_bd hab
 obtain ⟨cd,c1,d1⟩:=M.spanOk_bd hcd
 have E1:=fun W=>br a b W (M.fmk_near (by omega) (by omega)) (M.fmk_near (by omega) (by omega))
 have E2:=fun W=>br c d W (M.fmk_near (by omega) (by omega)) (M.fmk_near (by omega) (by omega))
 have PT:=Lib.hid fun W=>mG a b c d W hab hcd
 have PX:=Lib.hid fun W=>bi a c W
 have PY:=Lib.hid fun W=>fY b d W
 have PM:=fun W=>dC (max a c) (min b d) W (by omega) (by omega) (by omega) (by omega)
 generalize M.pick (M.spanOk (max a c) (min b d)) (M.pn (max a c))=p1 at *
 generalize M.pick (M.spanOk (max a c) (min b d)) (M.pd (max a c))=p2 at *
 generalize M.pick (M.spanOk (max a c) (min b d)) (M.pn (min b d))=p3 at *
 generalize M.pick (M.spanOk (max a c) (min b d)) (M.pd (min b d))=p4 at *
 generalize M.spanOk (max a c) (min b d)=s at *
 replace PM:=Lib.hid PM
 replace E1:=Lib.hid E1
 replace E2:=Lib.hid E2
 generalize hn1:M.pn a=n1 at *
 generalize hd1:M.pd a=d1 at *
 generalize hn2:M.pn b=n2 at *
 generalize hd2:M.pd b=d2 at *
 generalize hn3:M.pn c=n3 at *
 generalize hd3:M.pd c=d3 at *
 generalize hn4:M.pn d=n4 at *
 generalize hd4:M.pd d=d4 at *
 clear hn1 hn2 hn3 hn4 hd1 hd2 hd3 hd4
 have V:=((aG.new w #[.int .i64 n1,.int .i64 d1,.int .i64 n2,.int .i64 d2] 38).alloc (.cells #[.int .i64 n3,.int .i64 d3,.int .i64 n4,.int .i64 d4] 38)).alloc (.cells #[.int .i64 0,.int .i64 0,.int .i64 0,.int .i64 0] 38)
 have U:=(aG.new (w.alloc (.cells #[.int .i64 n1,.int .i64 d1,.int .i64 n2,.int .i64 d2] 38)) #[.int .i64 n3,.int .i64 d3,.int .i64 n4,.int .i64 d4] 38).alloc (.cells #[.int .i64 0,.int .i64 0,.int .i64 0,.int .i64 0] 38)
 rw [World.size_alloc] at U
 have R:=aG.new ((w.alloc (.cells #[.int .i64 n1,.int .i64 d1,.int .i64 n2,.int .i64 d2] 38)).alloc (.cells #[.int .i64 n3,.int .i64 d3,.int .i64 n4,.int .i64 d4] 38)) #[.int .i64 0,.int .i64 0,.int .i64 0,.int .i64 0] 38
 rw [World.size_alloc,World.size_alloc] at R
 have B:=(((Below.refl w.heap.size w).alloc (Nat.le_refl _) (.cells #[.int .i64 n1,.int .i64 d1,.int .i64 n2,.int .i64 d2] 38)).alloc (by rw [World.size_alloc];omega) (.cells #[.int .i64 n3,.int .i64 d3,.int .i64 n4,.int .i64 d4] 38)).alloc (by rw [World.size_alloc,World.size_alloc];omega) (.cells #[.int .i64 0,.int .i64 0,.int .i64 0,.int .i64 0] 38)
 generalize hw3:((w.alloc (.cells #[.int .i64 n1,.int .i64 d1,.int .i64 n2,.int .i64 d2] 38)).alloc (.cells #[.int .i64 n3,.int .i64 d3,.int .i64 n4,.int .i64 d4] 38)).alloc (.cells #[.int .i64 0,.int .i64 0,.int .i64 0,.int .i64 0] 38)=wc at *
 have V_c0:=V.boxQ.c0
 have V_c1:=V.boxQ.c1
 have V_c2:=V.boxQ.c2
 have V_c3:=V.boxQ.c3
 have U_c0:=U.boxQ.c0
 have U_c1:=U.boxQ.c1
 have U_c2:=U.boxQ.c2
 have U_c3:=U.boxQ.c3
 have R_c0:=R.boxQ.c0
 have R_c1:=R.boxQ.c1
 have R_c2:=R.boxQ.c2
 have R_c3:=R.boxQ.c3
 go_enter Tryz.func117,Tryz.ntmps117
 go_wp2_with (first
  | (go_at_call 130;(with_reducible refine (PT.out _).mono ?_);rintro e w4 ⟨rfl,hb4⟩;(replace V:=V.keep hb4);(replace U:=U.keep hb4);(replace R:=R.keep hb4);(replace B:=B.trans (hb4.mono B.size));(replace ⟨V_c0,V_c1,V_c2,V_c3⟩:=V.b4);(replace ⟨U_c0,U_c1,U_c2,U_c3⟩:=U.b4);(replace ⟨R_c0,R_c1,R_c2,R_c3,R_f0,R_f1,R_f2,R_f3⟩:=R.b4f))
  | (go_at_call 60;(with_reducible refine (E1.out _).mono ?_);rintro e w5 ⟨rfl,hb5⟩;(replace V:=V.keep hb5);(replace U:=U.keep hb5);(replace R:=R.keep hb5);(replace B:=B.trans (hb5.mono B.size));(replace ⟨V_c0,V_c1,V_c2,V_c3⟩:=V.b4);(replace ⟨U_c0,U_c1,U_c2,U_c3⟩:=U.b4);(replace ⟨R_c0,R_c1,R_c2,R_c3,R_f0,R_f1,R_f2,R_f3⟩:=R.b4f))
  | (go_at_call 60;(with_reducible refine (E2.out _).mono ?_);rintro e w6 ⟨rfl,hb6⟩;(replace V:=V.keep hb6);(replace U:=U.keep hb6);(replace R:=R.keep hb6);(replace B:=B.trans (hb6.mono B.size));(replace ⟨V_c0,V_c1,V_c2,V_c3⟩:=V.b4);(replace ⟨U_c0,U_c1,U_c2,U_c3⟩:=U.b4);(replace ⟨R_c0,R_c1,R_c2,R_c3,R_f0,R_f1,R_f2,R_f3⟩:=R.b4f))
  | (go_at_call 63;(with_reducible refine (PX.out _).mono ?_);rintro e w7 ⟨rfl,rfl⟩)
  | (go_at_call 62;(with_reducible refine (PY.out _).mono ?_);rintro e w8 ⟨rfl,rfl⟩)
  | (go_at_call 61;(with_reducible refine (PM.out _).mono ?_);rintro e w9 ⟨rfl,hb9⟩;(replace V:=V.keep hb9);(replace U:=U.keep hb9);(replace R:=R.keep hb9);(replace B:=B.trans (hb9.mono B.size));(replace ⟨V_c0,V_c1,V_c2,V_c3⟩:=V.b4);(replace ⟨U_c0,U_c1,U_c2,U_c3⟩:=U.b4);(replace ⟨R_c0,R_c1,R_c2,R_c3,R_f0,R_f1,R_f2,R_f3⟩:=R.b4f)))
 exact bodyPost_ret (v:=.tuple #[.agg #[.int .i64 p1,.int .i64 p2,.int .i64 p3,.int .i64 p4],.bool s]) (by simp [results,Tryz.results117,go_sem, *]) rfl (⟨rfl,Below.setCell (Below.setCell (Below.setCell (Below.setCell B (by simp <;> omega) _) (by simp <;> omega) _) (by simp <;> omega) _) (by simp <;> omega) _⟩)
theorem li (a b c d:Int) (w:World) (hab:M.spanOk a b=true) (hcd:M.spanOk c d=true) :
  Calls Tryz.prog 37 #[.agg #[.int .i64 (M.pn a),.int .i64 (M.pd a),.int .i64 (M.pn b),.int .i64 (M.pd b)],.agg #[.int .i64 (M.pn c),.int .i64 (M.pd c),.int .i64 (M.pn d),.int .i64 (M.pd d)]] w fun e w'=>e=.returned (.tuple #[.agg #[.int .i64 (M.pick (M.spanOk (M.tmin a b c d / 4096) (-(-M.tmax a b c d / 4096))) (M.pn (M.tmin a b c d / 4096))),.int .i64 (M.pick (M.spanOk (M.tmin a b c d / 4096) (-(-M.tmax a b c d / 4096))) (M.pd (M.tmin a b c d / 4096))),.int .i64 (M.pick (M.spanOk (M.tmin a b c d / 4096) (-(-M.tmax a b c d / 4096))) (M.pn (-(-M.tmax a b c d / 4096)))),.int .i64 (M.pick (M.spanOk (M.tmin a b c d / 4096) (-(-M.tmax a b c d / 4096))) (M.pd (-(-M.tmax a b c d / 4096))))],.bool (M.spanOk (M.tmin a b c d / 4096) (-(-M.tmax a b c d / 4096)))])∧Below w.heap.size w w':=by
 obtain ⟨ab,a1,b1⟩:=M.spanOk_bd hab
 obtain ⟨cd,c1,d1⟩:=M.spanOk_bd hcd
 have E1:=fun W=>br a b W (M.fmk_near (by omega) (by omega)) (M.fmk_near (by omega) (by omega))
 have E2:=fun W=>br c d W (M.fmk_near (by omega) (by omega)) (M.fmk_near (by omega) (by omega))
 have q1:=M.mul_bd (x:=a) (y:=c) (m:=1000000000) (n:=1000000000) (by omega) (by omega) (by omega) (by omega)
 have q2:=M.mul_bd (x:=a) (y:=d) (m:=1000000000) (n:=1000000000) (by omega) (by omega) (by omega) (by omega)
 have q3:=M.mul_bd (x:=b) (y:=c) (m:=1000000000) (n:=1000000000) (by omega) (by omega) (by omega) (by omega)
 have q4:=M.mul_bd (x:=b) (y:=d) (m:=1000000000) (n:=1000000000) (by omega) (by omega) (by omega) (by omega)
 obtain ⟨t1,t2,t3,t4⟩:=M.tm_bd (a:=a) (b:=b) (c:=c) (d:=d) (by omega) (by omega) (by omega) (by omega) (by omega) (by omega) (by omega) (by omega)
 have hmi:min (min (a*c) (a*d)) (min (b*c) (b*d))=M.tmin a b c d:=by unfold M.tmin;omega
 have hma:max (max (a*c) (a*d)) (max (b*c) (b*d))=M.tmax a b c d:=by unfold M.tmax;omega
 have f1:=bU (a:=M.tmin a b c d) (b:=4096) (k:=1000000000000000000) (by omega) (by omega) (by omega) (by omega)
 have f2:=bU (a:=-M.tmax a b c d) (b:=4096) (k:=1000000000000000000) (by omega) (by omega) (by omega) (by omega)
 have PX:=Lib.hid fun x y W=>bi x y W
 have PY:=Lib.hid fun x y W=>fY x y W
 have PD:=fun W=>eh (M.tmin a b c d) 4096 W (by omega) (by omega) (by omega) (by omega)
 have PU:=fun W=>kH (M.tmax a b c d) 4096 W (by omega) (by omega) (by omega) (by omega)
 have PM:=fun W=>dC (M.tmin a b c d / 4096) (-(-M.tmax a b c d / 4096)) W (by omega) (by omega) (by omega) (by omega)
 generalize M.pick (M.spanOk (M.tmin a b c d / 4096) (-(-M.tmax a b c d / 4096))) (M.pn (M.tmin a b c d / 4096))=p1 at *
 generalize M.pick (M.spanOk (M.tmin a b c d / 4096) (-(-M.tmax a b c d / 4096))) (M.pd (M.tmin a b c d / 4096))=p2 at *
 generalize M.pick (M.spanOk (M.tmin a b c d / 4096) (-(-M.tmax a b c d / 4096))) (M.pn (-(-M.tmax a b c d / 4096)))=p3 at *
 generalize M.pick (M.spanOk (M.tmin a b c d / 4096) (-(-M.tmax a b c d / 4096))) (M.pd (-(-M.tmax a b c d / 4096)))=p4 at *
 generalize M.spanOk (M.tmin a b c d / 4096) (-(-M.tmax a b c d / 4096))=s at *
 replace PM:=Lib.hid PM
 replace E1:=Lib.hid E1
 replace E2:=Lib.hid E2
 generalize M.tmin a b c d / 4096=lo at *
 generalize -(-M.tmax a b c d / 4096)=hi at *
 generalize M.tmin a b c d=mi at *
 generalize M.tmax a b c d=ma at *
 have PD:=Lib.hid fun x W (h:x=mi)=>(h ▸ PD W:Calls Tryz.prog 64 #[.int .i64 x,.int .i64 4096] W fun e w'=>e=.returned (.int .i64 lo)∧W=w')
 have PU:=Lib.hid fun x W (h:x=ma)=>(h ▸ PU W:Calls Tryz.prog 65 #[.int .i64 x,.int .i64 4096] W fun e w'=>e=.returned (.int .i64 hi)∧W=w')
 replace hmi:=Lib.hid hmi
 replace hma:=Lib.hid hma
 clear t1 t2 t3 t4 f1 f2
 generalize hn1:M.pn a=n1 at *
 generalize hd1:M.pd a=d1 at *
 generalize hn2:M.pn b=n2 at *
 generalize hd2:M.pd b=d2 at *
 generalize hn3:M.pn c=n3 at *
 generalize hd3:M.pd c=d3 at *
 generalize hn4:M.pn d=n4 at *
 generalize hd4:M.pd d=d4 at *
 clear hn1 hn2 hn3 hn4 hd1 hd2 hd3 hd4
 have V:=((aG.new w #[.int .i64 n1,.int .i64 d1,.int .i64 n2,.int .i64 d2] 38).alloc (.cells #[.int .i64 n3,.int .i64 d3,.int .i64 n4,.int .i64 d4] 38)).alloc (.cells #[.int .i64 0,.int .i64 0,.int .i64 0,.int .i64 0] 38)
 have U:=(aG.new (w.alloc (.cells #[.int .i64 n1,.int .i64 d1,.int .i64 n2,.int .i64 d2] 38)) #[.int .i64 n3,.int .i64 d3,.int .i64 n4,.int .i64 d4] 38).alloc (.cells #[.int .i64 0,.int .i64 0,.int .i64 0,.int .i64 0] 38)
 rw [World.size_alloc] at U
 have R:=aG.new ((w.alloc (.cells #[.int .i64 n1,.int .i64 d1,.int .i64 n2,.int .i64 d2] 38)).alloc (.cells #[.int .i64 n3,.int .i64 d3,.int .i64 n4,.int .i64 d4] 38)) #[.int .i64 0,.int .i64 0,.int .i64 0,.int .i64 0] 38
 rw [World.size_alloc,World.size_alloc] at R
 have B:=(((Below.refl w.heap.size w).alloc (Nat.le_refl _) (.cells #[.int .i64 n1,.int .i64 d1,.int .i64 n2,.int .i64 d2] 38)).alloc (by rw [World.size_alloc];omega) (.cells #[.int .i64 n3,.int .i64 d3,.int .i64 n4,.int .i64 d4] 38)).alloc (by rw [World.size_alloc,World.size_alloc];omega) (.cells #[.int .i64 0,.int .i64 0,.int .i64 0,.int .i64 0] 38)
 generalize hw3:((w.alloc (.cells #[.int .i64 n1,.int .i64 d1,.int .i64 n2,.int .i64 d2] 38)).alloc (.cells #[.int .i64 n3,.int .i64 d3,.int .i64 n4,.int .i64 d4] 38)).alloc (.cells #[.int .i64 0,.int .i64 0,.int .i64 0,.int .i64 0] 38)=wc at *
 have V_c0:=V.boxQ.c0
 have V_c1:=V.boxQ.c1
 have V_c2:=V.boxQ.c2
 have V_c3:=V.boxQ.c3
 have U_c0:=U.boxQ.c0
 have U_c1:=U.boxQ.c1
 have U_c2:=U.boxQ.c2
 have U_c3:=U.boxQ.c3
 have R_c0:=R.boxQ.c0
 have R_c1:=R.boxQ.c1
 have R_c2:=R.boxQ.c2
 have R_c3:=R.boxQ.c3
 go_enter Tryz.func37,Tryz.ntmps37
 go_wp2_with (first
  | (go_at_call 60;(with_reducible refine (E1.out _).mono ?_);rintro e w4 ⟨rfl,hb4⟩;(replace V:=V.keep hb4);(replace U:=U.keep hb4);(replace R:=R.keep hb4);(replace B:=B.trans (hb4.mono B.size));(replace ⟨V_c0,V_c1,V_c2,V_c3⟩:=V.b4);(replace ⟨U_c0,U_c1,U_c2,U_c3⟩:=U.b4);(replace ⟨R_c0,R_c1,R_c2,R_c3,R_f0,R_f1,R_f2,R_f3⟩:=R.b4f))
  | (go_at_call 60;(with_reducible refine (E2.out _).mono ?_);rintro e w5 ⟨rfl,hb5⟩;(replace V:=V.keep hb5);(replace U:=U.keep hb5);(replace R:=R.keep hb5);(replace B:=B.trans (hb5.mono B.size));(replace ⟨V_c0,V_c1,V_c2,V_c3⟩:=V.b4);(replace ⟨U_c0,U_c1,U_c2,U_c3⟩:=U.b4);(replace ⟨R_c0,R_c1,R_c2,R_c3,R_f0,R_f1,R_f2,R_f3⟩:=R.b4f))
  | (go_at_call 63;(with_reducible refine (PX.out _ _ _).mono ?_);rintro e w6 ⟨rfl,rfl⟩)
  | (go_at_call 62;(with_reducible refine (PY.out _ _ _).mono ?_);rintro e w7 ⟨rfl,rfl⟩)
  | (go_at_call 64;(with_reducible refine (PD.out _ _ (by have:=hmi.out;omega)).mono ?_);rintro e w8 ⟨rfl,rfl⟩)
  | (go_at_call 65;(with_reducible refine (PU.out _ _ (by have:=hma.out;omega)).mono ?_);rintro e w9 ⟨rfl,rfl⟩)
  | (go_at_call 61;(with_reducible refine (PM.out _).mono ?_);rintro e w10 ⟨rfl,hb10⟩;(replace V:=V.keep hb10);(replace U:=U.keep hb10);(replace R:=R.keep hb10);(replace B:=B.trans (hb10.mono B.size));(replace ⟨V_c0,V_c1,V_c2,V_c3⟩:=V.b4);(replace ⟨U_c0,U_c1,U_c2,U_c3⟩:=U.b4);(replace ⟨R_c0,R_c1,R_c2,R_c3,R_f0,R_f1,R_f2,R_f3⟩:=R.b4f)))
 exact bodyPost_ret (v:=.tuple #[.agg #[.int .i64 p1,.int .i64 p2,.int .i64 p3,.int .i64 p4],.bool s]) (by simp [results,Tryz.results37,go_sem, *]) rfl (⟨rfl,Below.setCell (Below.setCell (Below.setCell (Below.setCell B (by simp <;> omega) _) (by simp <;> omega) _) (by simp <;> omega) _) (by simp <;> omega) _⟩)
end
end Go.Proofs.YthfjndmdalfloaaGreat
