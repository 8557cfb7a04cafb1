/-
  Joined texts: contracts and plain lemmas.
-/
import Derived.Test.YtgfkcoablfjbcaaGreatDoorB1
import Derived.Test.YtgfkcoablfjbcaaGreatDoorB8
set_option linter.unusedSimpArgs false
set_option linter.unusedVariables false
set_option maxRecDepth 100000
set_option maxHeartbeats 8000000
namespace Go.Proofs.YtgfkcoablfjbcaaGreatDoor
section
open Go.RowKit
theorem mK (w3:World) (n:Nat) (hn:w3.heap.size=n) (u v x y:Value) (T:TypeId) :
  (∃ gx gz,n≤gx∧n≤gz∧Value.pointer (some ⟨n,0,none⟩)=.pointer (some ⟨gx,0,none⟩)∧Value.pointer (some ⟨n+1,0,none⟩)=.pointer (some ⟨gz,0,none⟩)∧aH ((w3.alloc (.cells #[u,v] T)).alloc (.cells #[x,y] T)).drew gx T #[u,v]∧aH ((w3.alloc (.cells #[u,v] T)).alloc (.cells #[x,y] T)).drew gz T #[x,y]∧Below n w3 ((w3.alloc (.cells #[u,v] T)).alloc (.cells #[x,y] T)).drew)∧
  (∃ gx gz,n≤gx∧n≤gz∧Value.pointer (some ⟨n+1,0,none⟩)=.pointer (some ⟨gx,0,none⟩)∧Value.pointer (some ⟨n,0,none⟩)=.pointer (some ⟨gz,0,none⟩)∧aH ((w3.alloc (.cells #[u,v] T)).alloc (.cells #[x,y] T)).drew gx T #[x,y]∧aH ((w3.alloc (.cells #[u,v] T)).alloc (.cells #[x,y] T)).drew gz T #[u,v]∧Below n w3 ((w3.alloc (.cells #[u,v] T)).alloc (.cells #[x,y] T)).drew):=by
 subst hn
 have h1:aH ((w3.alloc (.cells #[u,v] T)).alloc (.cells #[x,y] T)).drew w3.heap.size T #[u,v]:=(aH.new w3 #[u,v] T).alloc _
 have h2:aH ((w3.alloc (.cells #[u,v] T)).alloc (.cells #[x,y] T)).drew (w3.heap.size+1) T #[x,y]:=by
  have:=aH.new (w3.alloc (.cells #[u,v] T)) #[x,y] T
  rw [ui] at this
  exact this
 have hb:Below w3.heap.size w3 ((w3.alloc (.cells #[u,v] T)).alloc (.cells #[x,y] T)).drew:=(((uk _ _).alloc (ul _) _).alloc (by rw [ui];omega) _).drew
 exact ⟨⟨_,_,ul _,Nat.le_succ _,rfl,rfl,h1,h2,hb⟩,⟨_,_,Nat.le_succ _,ul _,rfl,rfl,h2,h1,hb⟩⟩
theorem fa (a b x z:Int) (vx vz:Value) (w:World) (bx bz:Nat) (hox:ae w bx vx x) (hoz:ae w bz vz z) (hx:Wh.sz x 1000) (hz:Wh.sz z 1000) (ha1:-1000≤a) (ha2:a≤1000) (hb1:-10000≤b) (hb2:b≤10000) :
  Calls Tryz.prog 152 #[.agg #[.int .i64 a,.int .i64 b],.agg #[.bool (decide (x<0)),vx,.bool (decide (z<0)),vz]] w fun e w'=>∃ sl,e=.returned (.agg #[.bool (decide (Wh.bJ a b x z<0)),sl])∧ae w' w.heap.size sl (Wh.bJ a b x z)∧Below w.heap.size w w':=by
 obtain ⟨ax,cx,rfl,-,-⟩:=aF.view hox
 obtain ⟨az,cz,rfl,-,-⟩:=aF.view hoz
 have hq1:Wh.sz (-2*a) 1000:=Wh.aN (Wh.bS (by omega) (by omega)) (by omega)
 have hq2:Wh.sz (-8*b) 1000:=Wh.aN (Wh.bS (by omega) (by omega)) (by omega)
 have haa:-1000000≤a*a∧a*a≤1000000:=M.aL (x:=a) (y:=a) (m:=1000) (n:=1000) (by omega) (by omega) (by omega) (by omega)
 have hq3:Wh.sz (a*a) 1000:=Wh.aN (Wh.bS (by omega) (by omega)) (by omega)
 have mm:∀ (l:List Int),(∀ y ∈ l,Wh.sz y 1000)→l.length≤5→∀ k,Wh.small ((l.take k).foldl (·*·) 1):=fun l h hl k=>Wh.cI (Wh.aN (Wh.gI h k) (show 1+l.length*1000≤8000 by omega)) (by omega)
 have mp:∀ (l:List Int),(∀ y ∈ l,Wh.sz y 1000)→l.length≤5→Wh.sz (l.foldl (·*·) 1) 6000:=fun l h hl=>by have:=Wh.gI h l.length;rw [List.take_length] at this;exact Wh.aN this (by omega)
 have m0:∀ (l:List Int),(∀ y ∈ l,Wh.sz y 1000)→∀ y ∈ l,Wh.small y:=fun l h y hy=>Wh.cI (h y hy) (by omega)
 have m1:∀ y ∈ ([x,x,x,x]:List Int),Wh.sz y 1000:=by intro y h;simp only [List.mem_cons,List.not_mem_nil,or_false] at h;rcases h with h | h | h | h <;> (subst h;assumption)
 have R1:=fun g cap W (h:bk W g [x,x,x,x])=>bT [x,x,x,x] g cap W h (by simp) (m0 _ m1) (mm _ m1 (by simp))
 have p1:=mp _ m1 (by simp)
 have m2:∀ y ∈ ([-2*a,x,x,z,z]:List Int),Wh.sz y 1000:=by intro y h;simp only [List.mem_cons,List.not_mem_nil,or_false] at h;rcases h with h | h | h | h | h <;> (subst h;assumption)
 have R2:=fun g cap W (h:bk W g [-2*a,x,x,z,z])=>bT [-2*a,x,x,z,z] g cap W h (by simp) (m0 _ m2) (mm _ m2 (by simp))
 have p2:=mp _ m2 (by simp)
 have m3:∀ y ∈ ([-8*b,x,z,z,z]:List Int),Wh.sz y 1000:=by intro y h;simp only [List.mem_cons,List.not_mem_nil,or_false] at h;rcases h with h | h | h | h | h <;> (subst h;assumption)
 have R3:=fun g cap W (h:bk W g [-8*b,x,z,z,z])=>bT [-8*b,x,z,z,z] g cap W h (by simp) (m0 _ m3) (mm _ m3 (by simp))
 have p3:=mp _ m3 (by simp)
 have m4:∀ y ∈ ([a*a,z,z,z,z]:List Int),Wh.sz y 1000:=by intro y h;simp only [List.mem_cons,List.not_mem_nil,or_false] at h;rcases h with h | h | h | h | h <;> (subst h;assumption)
 have R4:=fun g cap W (h:bk W g [a*a,z,z,z,z])=>bT [a*a,z,z,z,z] g cap W h (by simp) (m0 _ m4) (mm _ m4 (by simp))
 have p4:=mp _ m4 (by simp)
 have hT:=Wh.pY a b x z
 generalize hp1:([x,x,x,x]:List Int).foldl (·*·) 1=p1_ at *
 generalize hp2:([-2*a,x,x,z,z]:List Int).foldl (·*·) 1=p2_ at *
 generalize hp3:([-8*b,x,z,z,z]:List Int).foldl (·*·) 1=p3_ at *
 generalize hp4:([a*a,z,z,z,z]:List Int).foldl (·*·) 1=p4_ at *
 have ms:∀ y ∈ [p1_,p2_,p3_,p4_],Wh.sz y 6000:=by intro y h;simp only [List.mem_cons,List.not_mem_nil,or_false] at h;rcases h with h | h | h | h <;> (subst h;assumption)
 have R5:=fun g cap W (h:bk W g [p1_,p2_,p3_,p4_])=>gt [p1_,p2_,p3_,p4_] g cap W h (by simp) (fun y hy=>Wh.cI (ms y hy) (by omega)) (fun k=>Wh.cI (Wh.aN (Wh.kc ms (by omega) k) (show 6000+4≤7000 by omega)) (by omega))
 rw [hT] at R5
 have N1:=fun W=>bX (-2*a) W (by omega) (by omega)
 have N2:=fun W=>bX (-8*b) W (by omega) (by omega)
 have N3:=fun W=>bX (a*a) W (by omega) (by omega)
 have i1:IntKind.i64.wrap (-2*a)=-2*a:=IntWalk.i64_in _ (by omega)
 have i2:IntKind.i64.wrap (-8*b)=-8*b:=IntWalk.i64_in _ (by omega)
 have i3:IntKind.i64.wrap (a*a)=a*a:=IntWalk.i64_in _ (by omega)
 clear m1 m2 m3 m4 p1 p2 p3 p4 hp1 hp2 hp3 hp4 ms mm mp m0 hT
 replace R1:=uh R1
 replace R2:=uh R2
 replace R3:=uh R3
 replace R4:=uh R4
 replace R5:=uh R5
 replace N1:=uh N1
 replace N2:=uh N2
 replace N3:=uh N3
 replace i1:=uh i1
 replace i2:=uh i2
 replace i3:=uh i3
 generalize hF:Wh.bJ a b x z=F at *
 clear hF
 generalize hs1:decide (x<0)=s1 at *
 replace hs1:=uh hs1.symm
 generalize hs2:decide (z<0)=s2 at *
 replace hs2:=uh hs2.symm
 replace hox:=uh (show aF _ _ _ _ from hox)
 replace hoz:=uh (show aF _ _ _ _ from hoz)
 generalize (Wh.dig x.natAbs).length=lx at *
 generalize (Wh.dig z.natAbs).length=lz at *
 have b1:=((aH.new w #[.int .i64 a,.int .i64 b] 28).alloc (.cells #[.bool s1,.slice ax lx cx,.bool s2,.slice az lz cz] 120)).alloc (.cells #[.bool false,.slice none 0 0] 106)
 have b2:=(aH.new (w.alloc (.cells #[.int .i64 a,.int .i64 b] 28)) #[.bool s1,.slice ax lx cx,.bool s2,.slice az lz cz] 120).alloc (.cells #[.bool false,.slice none 0 0] 106)
 rw [ui] at b2
 have b3:=aH.new ((w.alloc (.cells #[.int .i64 a,.int .i64 b] 28)).alloc (.cells #[.bool s1,.slice ax lx cx,.bool s2,.slice az lz cz] 120)) #[.bool false,.slice none 0 0] 106
 rw [cZ] at b3
 have hB:=(((uk w.heap.size w).alloc (ul _) (.cells #[.int .i64 a,.int .i64 b] 28)).alloc (by rw [ui];omega) (.cells #[.bool s1,.slice ax lx cx,.bool s2,.slice az lz cz] 120)).alloc (by rw [cZ];omega) (.cells #[.bool false,.slice none 0 0] 106)
 have hz3:(((w.alloc (.cells #[.int .i64 a,.int .i64 b] 28)).alloc (.cells #[.bool s1,.slice ax lx cx,.bool s2,.slice az lz cz] 120)).alloc (.cells #[.bool false,.slice none 0 0] 106)).heap.size=w.heap.size+3:=by rw [ui,cZ]
 have hox3:=uh (aF.alloc (aF.alloc (aF.alloc hox.out (.cells #[.int .i64 a,.int .i64 b] 28)) (.cells #[.bool s1,.slice ax lx cx,.bool s2,.slice az lz cz] 120)) (.cells #[.bool false,.slice none 0 0] 106))
 have hoz3:=uh (aF.alloc (aF.alloc (aF.alloc hoz.out (.cells #[.int .i64 a,.int .i64 b] 28)) (.cells #[.bool s1,.slice ax lx cx,.bool s2,.slice az lz cz] 120)) (.cells #[.bool false,.slice none 0 0] 106))
 clear hox hoz
 generalize hw3:((w.alloc (.cells #[.int .i64 a,.int .i64 b] 28)).alloc (.cells #[.bool s1,.slice ax lx cx,.bool s2,.slice az lz cz] 120)).alloc (.cells #[.bool false,.slice none 0 0] 106)=w3 at *
 have e0:=b2.aR.c0
 have e1:=b2.aR.c1
 have e2:=b2.aR.c2
 have e3:=b2.aR.c3
 go_enter Tryz.func152,Tryz.ntmps152
 go_wp2
 go_upto_region 1 with fail
 go_cut [5,6] (fun p q wx=>∃ gx gz,w.heap.size+3≤gx∧w.heap.size+3≤gz∧p=.pointer (some ⟨gx,0,none⟩)∧q=.pointer (some ⟨gz,0,none⟩)∧aH wx gx 106 #[.bool s1,.slice ax lx cx]∧aH wx gz 106 #[.bool s2,.slice az lz cz]∧Below (w.heap.size+3) w3 wx)
 case first=>
  go_region
  all_goals
   go_wp2_with fail
   go_meet
   first
   | exact (mK _ _ hz3 _ _ _ _ _).1
   | exact (mK _ _ hz3 _ _ _ _ _).2
 case rest=>
 obtain ⟨gx,gz,hgx,hgz,rfl,rfl,X,Z,hbx⟩:=hcut
 rw [←hz3] at hbx
 have ox:=uh (aF.below hox3.out hbx)
 have oz:=uh (aF.below hoz3.out hbx)
 have C:=b1.keep hbx
 have R:=b3.keep hbx
 have hw:=hB.trans (hbx.mono hB.size)
 have hzw:w.heap.size+3≤wc.heap.size:=by have:=hbx.size;omega
 clear hz3
 clear b1 b2 b3 e0 e1 e2 e3 hB hbx hox3 hoz3
 go_upto_region 2 with fail
 refine Rg.bF 40 [.is (.agg #[.bool s1,.slice ax lx cx]),.is (.agg #[.bool s1,.slice ax lx cx]),.is (.agg #[.bool s1,.slice ax lx cx]),.is (.agg #[.bool s1,.slice ax lx cx]),.at (b7 (wc.heap.size) [x,x,x,x]),.at (aJ (wc.heap.size) (p1_)),.is (.pointer (some ⟨w.heap.size,0,none⟩)),.is (.int .i64 a),.is (.int .i64 ((-2)*a)),.at (aJ (wc.heap.size) (-2*a)),.is (.agg #[.bool s1,.slice ax lx cx]),.is (.agg #[.bool s1,.slice ax lx cx]),.is (.agg #[.bool s2,.slice az lz cz]),.is (.agg #[.bool s2,.slice az lz cz]),.at (b7 (wc.heap.size) [-2*a,x,x,z,z]),.at (aJ (wc.heap.size) (p2_)),.is (.pointer (some ⟨w.heap.size,1,none⟩)),.is (.int .i64 b),.is (.int .i64 ((-8)*b)),.at (aJ (wc.heap.size) (-8*b)),.is (.agg #[.bool s1,.slice ax lx cx]),.is (.agg #[.bool s2,.slice az lz cz]),.is (.agg #[.bool s2,.slice az lz cz]),.is (.agg #[.bool s2,.slice az lz cz]),.at (b7 (wc.heap.size) [-8*b,x,z,z,z]),.at (aJ (wc.heap.size) (p3_)),.is (.pointer (some ⟨w.heap.size,0,none⟩)),.is (.int .i64 a),.is (.pointer (some ⟨w.heap.size,0,none⟩)),.is (.int .i64 a),.is (.int .i64 (a*a)),.at (aJ (wc.heap.size) (a*a)),.is (.agg #[.bool s2,.slice az lz cz]),.is (.agg #[.bool s2,.slice az lz cz]),.is (.agg #[.bool s2,.slice az lz cz]),.is (.agg #[.bool s2,.slice az lz cz]),.at (b7 (wc.heap.size) [a*a,z,z,z,z]),.at (aJ (wc.heap.size) (p4_)),.at (b7 (wc.heap.size) [p1_,p2_,p3_,p4_]),.at (aJ (wc.heap.size) (F))] (by kernel_rfl) (by kernel_rfl) (by kernel_rfl) ⟨?_,?_,?_,?_,?_,?_,?_,?_,?_,?_,?_,?_,?_,?_,?_,?_,?_,?_,?_,?_,?_,?_,?_,?_,?_,?_,?_,?_,?_,?_,?_,?_,?_,?_,?_,?_,?_,?_,?_,?_,fun h_=>absurd h_ (by decide),trivial⟩ ?_
 ·intro _ ac_ w_ hB hr
  have e5:ac_.tmps[5]?=some (.pointer (some ⟨gx,0,none⟩)):=hr 5 (by decide)
  have k0:=aE hB X.box.c0
  have k1:=aE hB X.box.c1
  exact Rg.aG rfl (by go_simp)
 ·intro _ ac_ w_ hB hr
  have e5:ac_.tmps[5]?=some (.pointer (some ⟨gx,0,none⟩)):=hr 5 (by decide)
  have k0:=aE hB X.box.c0
  have k1:=aE hB X.box.c1
  exact Rg.aG rfl (by go_simp)
 ·intro _ ac_ w_ hB hr
  have e5:ac_.tmps[5]?=some (.pointer (some ⟨gx,0,none⟩)):=hr 5 (by decide)
  have k0:=aE hB X.box.c0
  have k1:=aE hB X.box.c1
  exact Rg.aG rfl (by go_simp)
 ·intro _ ac_ w_ hB hr
  have e5:ac_.tmps[5]?=some (.pointer (some ⟨gx,0,none⟩)):=hr 5 (by decide)
  have k0:=aE hB X.box.c0
  have k1:=aE hB X.box.c1
  exact Rg.aG rfl (by go_simp)
 ·intro _ ac_ w_ hB hr
  have e11:=Rg.ev1 (hr 11 (by decide))
  have e12:=Rg.ev1 (hr 12 (by decide))
  have e13:=Rg.ev1 (hr 13 (by decide))
  have e14:=Rg.ev1 (hr 14 (by decide))
  refine Rg.jS rfl (x:=.slice (some ⟨w_.heap.size,0,none⟩) 4 4) (ob:=.cells (List.toArray [.bool s1,.slice ax lx cx,.bool s1,.slice ax lx cx,.bool s1,.slice ax lx cx,.bool s1,.slice ax lx cx]) 106) (by first | (go_simp;done) | (go_simp;exact ⟨rfl,rfl⟩) | (go_simp;rfl)) (b7.at (by have:=hB.size;omega) ?_ rfl)
  exact bV.cons hs1.out (aF.below ox.out hB) (bV.cons hs1.out (aF.below ox.out hB) (bV.cons hs1.out (aF.below ox.out hB) (bV.cons hs1.out (aF.below ox.out hB) (bV.nil))))
 ·intro _ ac_ w_ hB hr
  obtain ⟨v15,e15,n15⟩:∃ v,ac_.tmps[15]?=some v∧(Rg.Val.at (b7 (wc.heap.size) [x,x,x,x])).ok v w_:=hr 15 (by decide)
  obtain ⟨g15,rfl,o15⟩:=Rg.aZ n15
  have ef:=Rg.ef ac_
  refine Rg.aX rfl (by go_simp;exact ⟨rfl,rfl⟩) ?_
  refine (R1.out _ _ _ o15).mono ?_
  rintro e w5 ⟨sl5,rfl,ho5,hb5⟩
  exact ⟨_,rfl,aJ.at ho5 (by have:=hB.size;omega),hb5⟩
 ·intro _ ac_ w_ hB hr
  have e2:ac_.tmps[2]?=some (.pointer (some ⟨w.heap.size,0,none⟩)):=hr 2 (by decide)
  exact Rg.aG rfl (by go_simp)
 ·intro _ ac_ w_ hB hr
  have e17:=Rg.ev1 (hr 17 (by decide))
  have k0:=aE hB C.box.c0
  exact Rg.aG rfl (by go_simp)
 ·intro _ ac_ w_ hB hr
  have e18:=Rg.ev1 (hr 18 (by decide))
  have ec:=Rg.ec ac_
  exact Rg.aG rfl (by go_simp <;> exact Rg.wo (by omega))
 ·intro _ ac_ w_ hB hr
  have e19:=Rg.ev1 (hr 19 (by decide))
  have ef:=Rg.ef ac_
  refine Rg.aX rfl (by go_simp;exact ⟨rfl,rfl⟩) ?_
  refine (N1.out _).mono ?_
  rintro e w5 ⟨sl5,rfl,ho5,hb5⟩
  exact ⟨_,rfl,aJ.at ho5 (by have:=hB.size;omega),hb5⟩
 ·intro _ ac_ w_ hB hr
  have e5:ac_.tmps[5]?=some (.pointer (some ⟨gx,0,none⟩)):=hr 5 (by decide)
  have k0:=aE hB X.box.c0
  have k1:=aE hB X.box.c1
  exact Rg.aG rfl (by go_simp)
 ·intro _ ac_ w_ hB hr
  have e5:ac_.tmps[5]?=some (.pointer (some ⟨gx,0,none⟩)):=hr 5 (by decide)
  have k0:=aE hB X.box.c0
  have k1:=aE hB X.box.c1
  exact Rg.aG rfl (by go_simp)
 ·intro _ ac_ w_ hB hr
  have e6:ac_.tmps[6]?=some (.pointer (some ⟨gz,0,none⟩)):=hr 6 (by decide)
  have k0:=aE hB Z.box.c0
  have k1:=aE hB Z.box.c1
  exact Rg.aG rfl (by go_simp)
 ·intro _ ac_ w_ hB hr
  have e6:ac_.tmps[6]?=some (.pointer (some ⟨gz,0,none⟩)):=hr 6 (by decide)
  have k0:=aE hB Z.box.c0
  have k1:=aE hB Z.box.c1
  exact Rg.aG rfl (by go_simp)
 ·intro _ ac_ w_ hB hr
  obtain ⟨v20,e20,n20⟩:∃ v,ac_.tmps[20]?=some v∧(Rg.Val.at (aJ (wc.heap.size) (-2*a))).ok v w_:=hr 20 (by decide)
  obtain ⟨s20,a20,l20,c20,hs20,rfl,o20⟩:=(Rg.aZ n20).view
  have e21:=Rg.ev1 (hr 21 (by decide))
  have e22:=Rg.ev1 (hr 22 (by decide))
  have e23:=Rg.ev1 (hr 23 (by decide))
  have e24:=Rg.ev1 (hr 24 (by decide))
  refine Rg.jS rfl (x:=.slice (some ⟨w_.heap.size,0,none⟩) 5 5) (ob:=.cells (List.toArray [.bool s20,.slice a20 l20 c20,.bool s1,.slice ax lx cx,.bool s1,.slice ax lx cx,.bool s2,.slice az lz cz,.bool s2,.slice az lz cz]) 106) (by first | (go_simp;done) | (go_simp;exact ⟨rfl,rfl⟩) | (go_simp;rfl)) (b7.at (by have:=hB.size;omega) ?_ rfl)
  exact bV.cons hs20.out o20 (bV.cons hs1.out (aF.below ox.out hB) (bV.cons hs1.out (aF.below ox.out hB) (bV.cons hs2.out (aF.below oz.out hB) (bV.cons hs2.out (aF.below oz.out hB) (bV.nil)))))
 ·intro _ ac_ w_ hB hr
  obtain ⟨v25,e25,n25⟩:∃ v,ac_.tmps[25]?=some v∧(Rg.Val.at (b7 (wc.heap.size) [-2*a,x,x,z,z])).ok v w_:=hr 25 (by decide)
  obtain ⟨g25,rfl,o25⟩:=Rg.aZ n25
  have ef:=Rg.ef ac_
  refine Rg.aX rfl (by go_simp;exact ⟨rfl,rfl⟩) ?_
  refine (R2.out _ _ _ o25).mono ?_
  rintro e w5 ⟨sl5,rfl,ho5,hb5⟩
  exact ⟨_,rfl,aJ.at ho5 (by have:=hB.size;omega),hb5⟩
 ·intro _ ac_ w_ hB hr
  have e2:ac_.tmps[2]?=some (.pointer (some ⟨w.heap.size,0,none⟩)):=hr 2 (by decide)
  exact Rg.aG rfl (by go_simp)
 ·intro _ ac_ w_ hB hr
  have e27:=Rg.ev1 (hr 27 (by decide))
  have k1:=aE hB C.box.c1
  exact Rg.aG rfl (by go_simp)
 ·intro _ ac_ w_ hB hr
  have e28:=Rg.ev1 (hr 28 (by decide))
  have ec:=Rg.ec ac_
  exact Rg.aG rfl (by go_simp <;> exact Rg.wo (by omega))
 ·intro _ ac_ w_ hB hr
  have e29:=Rg.ev1 (hr 29 (by decide))
  have ef:=Rg.ef ac_
  refine Rg.aX rfl (by go_simp;exact ⟨rfl,rfl⟩) ?_
  refine (N2.out _).mono ?_
  rintro e w5 ⟨sl5,rfl,ho5,hb5⟩
  exact ⟨_,rfl,aJ.at ho5 (by have:=hB.size;omega),hb5⟩
 ·intro _ ac_ w_ hB hr
  have e5:ac_.tmps[5]?=some (.pointer (some ⟨gx,0,none⟩)):=hr 5 (by decide)
  have k0:=aE hB X.box.c0
  have k1:=aE hB X.box.c1
  exact Rg.aG rfl (by go_simp)
 ·intro _ ac_ w_ hB hr
  have e6:ac_.tmps[6]?=some (.pointer (some ⟨gz,0,none⟩)):=hr 6 (by decide)
  have k0:=aE hB Z.box.c0
  have k1:=aE hB Z.box.c1
  exact Rg.aG rfl (by go_simp)
 ·intro _ ac_ w_ hB hr
  have e6:ac_.tmps[6]?=some (.pointer (some ⟨gz,0,none⟩)):=hr 6 (by decide)
  have k0:=aE hB Z.box.c0
  have k1:=aE hB Z.box.c1
  exact Rg.aG rfl (by go_simp)
 ·intro _ ac_ w_ hB hr
  have e6:ac_.tmps[6]?=some (.pointer (some ⟨gz,0,none⟩)):=hr 6 (by decide)
  have k0:=aE hB Z.box.c0
  have k1:=aE hB Z.box.c1
  exact Rg.aG rfl (by go_simp)
 ·intro _ ac_ w_ hB hr
  obtain ⟨v30,e30,n30⟩:∃ v,ac_.tmps[30]?=some v∧(Rg.Val.at (aJ (wc.heap.size) (-8*b))).ok v w_:=hr 30 (by decide)
  obtain ⟨s30,a30,l30,c30,hs30,rfl,o30⟩:=(Rg.aZ n30).view
  have e31:=Rg.ev1 (hr 31 (by decide))
  have e32:=Rg.ev1 (hr 32 (by decide))
  have e33:=Rg.ev1 (hr 33 (by decide))
  have e34:=Rg.ev1 (hr 34 (by decide))
  refine Rg.jS rfl (x:=.slice (some ⟨w_.heap.size,0,none⟩) 5 5) (ob:=.cells (List.toArray [.bool s30,.slice a30 l30 c30,.bool s1,.slice ax lx cx,.bool s2,.slice az lz cz,.bool s2,.slice az lz cz,.bool s2,.slice az lz cz]) 106) (by first | (go_simp;done) | (go_simp;exact ⟨rfl,rfl⟩) | (go_simp;rfl)) (b7.at (by have:=hB.size;omega) ?_ rfl)
  exact bV.cons hs30.out o30 (bV.cons hs1.out (aF.below ox.out hB) (bV.cons hs2.out (aF.below oz.out hB) (bV.cons hs2.out (aF.below oz.out hB) (bV.cons hs2.out (aF.below oz.out hB) (bV.nil)))))
 ·intro _ ac_ w_ hB hr
  obtain ⟨v35,e35,n35⟩:∃ v,ac_.tmps[35]?=some v∧(Rg.Val.at (b7 (wc.heap.size) [-8*b,x,z,z,z])).ok v w_:=hr 35 (by decide)
  obtain ⟨g35,rfl,o35⟩:=Rg.aZ n35
  have ef:=Rg.ef ac_
  refine Rg.aX rfl (by go_simp;exact ⟨rfl,rfl⟩) ?_
  refine (R3.out _ _ _ o35).mono ?_
  rintro e w5 ⟨sl5,rfl,ho5,hb5⟩
  exact ⟨_,rfl,aJ.at ho5 (by have:=hB.size;omega),hb5⟩
 ·intro _ ac_ w_ hB hr
  have e2:ac_.tmps[2]?=some (.pointer (some ⟨w.heap.size,0,none⟩)):=hr 2 (by decide)
  exact Rg.aG rfl (by go_simp)
 ·intro _ ac_ w_ hB hr
  have e37:=Rg.ev1 (hr 37 (by decide))
  have k0:=aE hB C.box.c0
  exact Rg.aG rfl (by go_simp)
 ·intro _ ac_ w_ hB hr
  have e2:ac_.tmps[2]?=some (.pointer (some ⟨w.heap.size,0,none⟩)):=hr 2 (by decide)
  exact Rg.aG rfl (by go_simp)
 ·intro _ ac_ w_ hB hr
  have e39:=Rg.ev1 (hr 39 (by decide))
  have k0:=aE hB C.box.c0
  exact Rg.aG rfl (by go_simp)
 ·intro _ ac_ w_ hB hr
  have e38:=Rg.ev1 (hr 38 (by decide))
  have e40:=Rg.ev1 (hr 40 (by decide))
  exact Rg.aG rfl (by go_simp <;> exact Rg.wo (by omega))
 ·intro _ ac_ w_ hB hr
  have e41:=Rg.ev1 (hr 41 (by decide))
  have ef:=Rg.ef ac_
  refine Rg.aX rfl (by go_simp;exact ⟨rfl,rfl⟩) ?_
  refine (N3.out _).mono ?_
  rintro e w5 ⟨sl5,rfl,ho5,hb5⟩
  exact ⟨_,rfl,aJ.at ho5 (by have:=hB.size;omega),hb5⟩
 ·intro _ ac_ w_ hB hr
  have e6:ac_.tmps[6]?=some (.pointer (some ⟨gz,0,none⟩)):=hr 6 (by decide)
  have k0:=aE hB Z.box.c0
  have k1:=aE hB Z.box.c1
  exact Rg.aG rfl (by go_simp)
 ·intro _ ac_ w_ hB hr
  have e6:ac_.tmps[6]?=some (.pointer (some ⟨gz,0,none⟩)):=hr 6 (by decide)
  have k0:=aE hB Z.box.c0
  have k1:=aE hB Z.box.c1
  exact Rg.aG rfl (by go_simp)
 ·intro _ ac_ w_ hB hr
  have e6:ac_.tmps[6]?=some (.pointer (some ⟨gz,0,none⟩)):=hr 6 (by decide)
  have k0:=aE hB Z.box.c0
  have k1:=aE hB Z.box.c1
  exact Rg.aG rfl (by go_simp)
 ·intro _ ac_ w_ hB hr
  have e6:ac_.tmps[6]?=some (.pointer (some ⟨gz,0,none⟩)):=hr 6 (by decide)
  have k0:=aE hB Z.box.c0
  have k1:=aE hB Z.box.c1
  exact Rg.aG rfl (by go_simp)
 ·intro _ ac_ w_ hB hr
  obtain ⟨v42,e42,n42⟩:∃ v,ac_.tmps[42]?=some v∧(Rg.Val.at (aJ (wc.heap.size) (a*a))).ok v w_:=hr 42 (by decide)
  obtain ⟨s42,a42,l42,c42,hs42,rfl,o42⟩:=(Rg.aZ n42).view
  have e43:=Rg.ev1 (hr 43 (by decide))
  have e44:=Rg.ev1 (hr 44 (by decide))
  have e45:=Rg.ev1 (hr 45 (by decide))
  have e46:=Rg.ev1 (hr 46 (by decide))
  refine Rg.jS rfl (x:=.slice (some ⟨w_.heap.size,0,none⟩) 5 5) (ob:=.cells (List.toArray [.bool s42,.slice a42 l42 c42,.bool s2,.slice az lz cz,.bool s2,.slice az lz cz,.bool s2,.slice az lz cz,.bool s2,.slice az lz cz]) 106) (by first | (go_simp;done) | (go_simp;exact ⟨rfl,rfl⟩) | (go_simp;rfl)) (b7.at (by have:=hB.size;omega) ?_ rfl)
  exact bV.cons hs42.out o42 (bV.cons hs2.out (aF.below oz.out hB) (bV.cons hs2.out (aF.below oz.out hB) (bV.cons hs2.out (aF.below oz.out hB) (bV.cons hs2.out (aF.below oz.out hB) (bV.nil)))))
 ·intro _ ac_ w_ hB hr
  obtain ⟨v47,e47,n47⟩:∃ v,ac_.tmps[47]?=some v∧(Rg.Val.at (b7 (wc.heap.size) [a*a,z,z,z,z])).ok v w_:=hr 47 (by decide)
  obtain ⟨g47,rfl,o47⟩:=Rg.aZ n47
  have ef:=Rg.ef ac_
  refine Rg.aX rfl (by go_simp;exact ⟨rfl,rfl⟩) ?_
  refine (R4.out _ _ _ o47).mono ?_
  rintro e w5 ⟨sl5,rfl,ho5,hb5⟩
  exact ⟨_,rfl,aJ.at ho5 (by have:=hB.size;omega),hb5⟩
 ·intro _ ac_ w_ hB hr
  obtain ⟨v16,e16,n16⟩:∃ v,ac_.tmps[16]?=some v∧(Rg.Val.at (aJ (wc.heap.size) (p1_))).ok v w_:=hr 16 (by decide)
  obtain ⟨s16,a16,l16,c16,hs16,rfl,o16⟩:=(Rg.aZ n16).view
  obtain ⟨v26,e26,n26⟩:∃ v,ac_.tmps[26]?=some v∧(Rg.Val.at (aJ (wc.heap.size) (p2_))).ok v w_:=hr 26 (by decide)
  obtain ⟨s26,a26,l26,c26,hs26,rfl,o26⟩:=(Rg.aZ n26).view
  obtain ⟨v36,e36,n36⟩:∃ v,ac_.tmps[36]?=some v∧(Rg.Val.at (aJ (wc.heap.size) (p3_))).ok v w_:=hr 36 (by decide)
  obtain ⟨s36,a36,l36,c36,hs36,rfl,o36⟩:=(Rg.aZ n36).view
  obtain ⟨v48,e48,n48⟩:∃ v,ac_.tmps[48]?=some v∧(Rg.Val.at (aJ (wc.heap.size) (p4_))).ok v w_:=hr 48 (by decide)
  obtain ⟨s48,a48,l48,c48,hs48,rfl,o48⟩:=(Rg.aZ n48).view
  refine Rg.jS rfl (x:=.slice (some ⟨w_.heap.size,0,none⟩) 4 4) (ob:=.cells (List.toArray [.bool s16,.slice a16 l16 c16,.bool s26,.slice a26 l26 c26,.bool s36,.slice a36 l36 c36,.bool s48,.slice a48 l48 c48]) 106) (by first | (go_simp;done) | (go_simp;exact ⟨rfl,rfl⟩) | (go_simp;rfl)) (b7.at (by have:=hB.size;omega) ?_ rfl)
  exact bV.cons hs16.out o16 (bV.cons hs26.out o26 (bV.cons hs36.out o36 (bV.cons hs48.out o48 (bV.nil))))
 ·intro _ ac_ w_ hB hr
  obtain ⟨v49,e49,n49⟩:∃ v,ac_.tmps[49]?=some v∧(Rg.Val.at (b7 (wc.heap.size) [p1_,p2_,p3_,p4_])).ok v w_:=hr 49 (by decide)
  obtain ⟨g49,rfl,o49⟩:=Rg.aZ n49
  have ef:=Rg.ef ac_
  refine Rg.aX rfl (by go_simp;exact ⟨rfl,rfl⟩) ?_
  refine (R5.out _ _ _ o49).mono ?_
  rintro e w5 ⟨sl5,rfl,ho5,hb5⟩
  exact ⟨_,rfl,aJ.at ho5 (by have:=hB.size;omega),hb5⟩
 intro vals wz hB hv hne
 have n50:(Rg.Val.at (aJ (wc.heap.size) (F))).ok (vals 39) wz:=hv 39 (by decide)
 simp only [Rg.am,Rg.fill,Act.put,Nat.reduceAdd]
 clear hv
 obtain ⟨s50,a50,l50,c50,hs50,v_39,o50⟩:=(Rg.aZ n50).view
 simp only [v_39]
 clear v_39
 have R2:=R.keep hB
 have ⟨c0,c1,f0,f1,_⟩:=R2.box
 have hr1:=aF.base (aF.bC o50 R2 (by decide) (.bool s50) (.slice a50 l50 c50)) (Nat.le_trans (Nat.le_add_right _ 3) hzw)
 have hr2:Below w.heap.size w ((wz.setCell ⟨w.heap.size+1+1,0,none⟩ (.bool s50)).setCell ⟨w.heap.size+1+1,1,none⟩ (.slice a50 l50 c50)):=uj (uj (hw.trans (hB.mono hw.size)) (by simp <;> omega) _) (by simp <;> omega) _
 unfold Rg.aV Rg.aV Oper.wp
 go_simp
 go_wp2
 exact bodyPost_ret (v:=.agg #[.bool s50,.slice a50 l50 c50]) (by simp [results,Tryz.results152,go_sem, *]) rfl (⟨_,by rw [hs50.out],hr1,hr2⟩)
theorem dY (a b x z:Int) (vx vz:Value) (w:World) (bx bz:Nat) (hox:ae w bx vx x) (hoz:ae w bz vz z) (hx:Wh.sz x 1000) (hz:Wh.sz z 1000) (ha1:-1000≤a) (ha2:a≤1000) (hb1:-10000≤b) (hb2:b≤10000) :
  Calls Tryz.prog 135 #[.agg #[.int .i64 a,.int .i64 b],.agg #[.bool (decide (x<0)),vx,.bool (decide (z<0)),vz]] w fun e w'=>∃ sl,e=.returned (.agg #[.bool (decide (Wh.bD a b x z<0)),sl])∧ae w' w.heap.size sl (Wh.bD a b x z)∧Below w.heap.size w w':=by
 obtain ⟨ax,cx,rfl,-,-⟩:=aF.view hox
 obtain ⟨az,cz,rfl,-,-⟩:=aF.view hoz
 have hq1:Wh.sz a 1000:=Wh.aN (Wh.bS (by omega) (by omega)) (by omega)
 have hq2:Wh.sz b 1000:=Wh.aN (Wh.bS (by omega) (by omega)) (by omega)
 have hq3:Wh.sz 4 1000:=Wh.aN (Wh.bS (by omega) (by omega)) (by omega)
 have mm:∀ (l:List Int),(∀ y ∈ l,Wh.sz y 1000)→l.length≤5→∀ k,Wh.small ((l.take k).foldl (·*·) 1):=fun l h hl k=>Wh.cI (Wh.aN (Wh.gI h k) (show 1+l.length*1000≤8000 by omega)) (by omega)
 have mp:∀ (l:List Int),(∀ y ∈ l,Wh.sz y 1000)→l.length≤4→Wh.sz (l.foldl (·*·) 1) 4001:=fun l h hl=>by have:=Wh.gI h l.length;rw [List.take_length] at this;exact Wh.aN this (by omega)
 have m0:∀ (l:List Int),(∀ y ∈ l,Wh.sz y 1000)→∀ y ∈ l,Wh.small y:=fun l h y hy=>Wh.cI (h y hy) (by omega)
 have m1:∀ y ∈ ([x,x,x]:List Int),Wh.sz y 1000:=by intro y h;simp only [List.mem_cons,List.not_mem_nil,or_false] at h;rcases h with h | h | h <;> (subst h;assumption)
 have R1:=fun g cap W (h:bk W g [x,x,x])=>bT [x,x,x] g cap W h (by simp) (m0 _ m1) (mm _ m1 (by simp))
 have p1:=mp _ m1 (by simp)
 have m2:∀ y ∈ ([a,x,z,z]:List Int),Wh.sz y 1000:=by intro y h;simp only [List.mem_cons,List.not_mem_nil,or_false] at h;rcases h with h | h | h | h <;> (subst h;assumption)
 have R2:=fun g cap W (h:bk W g [a,x,z,z])=>bT [a,x,z,z] g cap W h (by simp) (m0 _ m2) (mm _ m2 (by simp))
 have p2:=mp _ m2 (by simp)
 have m3:∀ y ∈ ([b,z,z,z]:List Int),Wh.sz y 1000:=by intro y h;simp only [List.mem_cons,List.not_mem_nil,or_false] at h;rcases h with h | h | h | h <;> (subst h;assumption)
 have R3:=fun g cap W (h:bk W g [b,z,z,z])=>bT [b,z,z,z] g cap W h (by simp) (m0 _ m3) (mm _ m3 (by simp))
 have p3:=mp _ m3 (by simp)
 have hT:=Wh.oY a b x z
 generalize hp1:([x,x,x]:List Int).foldl (·*·) 1=p1_ at *
 generalize hp2:([a,x,z,z]:List Int).foldl (·*·) 1=p2_ at *
 generalize hp3:([b,z,z,z]:List Int).foldl (·*·) 1=p3_ at *
 have ms:∀ y ∈ [p1_,p2_,p3_],Wh.sz y 4001:=by intro y h;simp only [List.mem_cons,List.not_mem_nil,or_false] at h;rcases h with h | h | h <;> (subst h;assumption)
 have R5:=fun g cap W (h:bk W g [p1_,p2_,p3_])=>gt [p1_,p2_,p3_] g cap W h (by simp) (fun y hy=>Wh.cI (ms y hy) (by omega)) (fun k=>Wh.cI (Wh.aN (Wh.kc ms (by omega) k) (show 4001+3≤7000 by omega)) (by omega))
 have hq5:=Wh.kc ms (by omega) 3
 rw [show ([p1_,p2_,p3_]:List Int).take 3=[p1_,p2_,p3_] from rfl] at hq5
 generalize hp5:([p1_,p2_,p3_]:List Int).foldl (·+·) 0=p5_ at *
 have hq6:Wh.sz p5_ 4004:=hq5
 have R6:=fun g cap W (h:bk W g [4,z,p5_])=>bT [4,z,p5_] g cap W h (by simp) (by
  intro y h;simp only [List.mem_cons,List.not_mem_nil,or_false] at h;rcases h with h | h | h
  ·subst h;exact Wh.cI hq3 (by omega)
  ·subst h;exact Wh.cI hz (by omega)
  ·subst h;exact Wh.cI hq6 (by omega)) (fun k=>by
  have y0:=Wh.rU
  have y1:=Wh.ag y0 hq3
  have y2:=Wh.ag y1 hz
  have y3:=Wh.ag y2 hq6
  match k with
  | 0=>exact Wh.cI y0 (by omega)
  | 1=>exact Wh.cI y1 (by omega)
  | 2=>exact Wh.cI y2 (by omega)
  | k+3=>rw [List.take_of_length_le (by simp)];exact Wh.cI y3 (by omega))
 rw [hT] at R6
 have N1:=fun W=>bX a W (by omega) (by omega)
 have N2:=fun W=>bX b W (by omega) (by omega)
 have N3:=fun W=>bX 4 W (by omega) (by omega)
 clear m1 m2 m3 p1 p2 p3 hp1 hp2 hp3 ms mm mp m0 hT hp5 hq5 hq6
 replace R1:=uh R1
 replace R2:=uh R2
 replace R3:=uh R3
 replace R5:=uh R5
 replace R6:=uh R6
 replace N1:=uh N1
 replace N2:=uh N2
 replace N3:=uh N3
 generalize hF:Wh.bD a b x z=F at *
 clear hF
 generalize hs1:decide (x<0)=s1 at *
 replace hs1:=uh hs1.symm
 generalize hs2:decide (z<0)=s2 at *
 replace hs2:=uh hs2.symm
 replace hox:=uh (show aF _ _ _ _ from hox)
 replace hoz:=uh (show aF _ _ _ _ from hoz)
 generalize (Wh.dig x.natAbs).length=lx at *
 generalize (Wh.dig z.natAbs).length=lz at *
 have b1:=((aH.new w #[.int .i64 a,.int .i64 b] 28).alloc (.cells #[.bool s1,.slice ax lx cx,.bool s2,.slice az lz cz] 120)).alloc (.cells #[.bool false,.slice none 0 0] 106)
 have b2:=(aH.new (w.alloc (.cells #[.int .i64 a,.int .i64 b] 28)) #[.bool s1,.slice ax lx cx,.bool s2,.slice az lz cz] 120).alloc (.cells #[.bool false,.slice none 0 0] 106)
 rw [ui] at b2
 have b3:=aH.new ((w.alloc (.cells #[.int .i64 a,.int .i64 b] 28)).alloc (.cells #[.bool s1,.slice ax lx cx,.bool s2,.slice az lz cz] 120)) #[.bool false,.slice none 0 0] 106
 rw [cZ] at b3
 have hB:=(((uk w.heap.size w).alloc (ul _) (.cells #[.int .i64 a,.int .i64 b] 28)).alloc (by rw [ui];omega) (.cells #[.bool s1,.slice ax lx cx,.bool s2,.slice az lz cz] 120)).alloc (by rw [cZ];omega) (.cells #[.bool false,.slice none 0 0] 106)
 have hz3:(((w.alloc (.cells #[.int .i64 a,.int .i64 b] 28)).alloc (.cells #[.bool s1,.slice ax lx cx,.bool s2,.slice az lz cz] 120)).alloc (.cells #[.bool false,.slice none 0 0] 106)).heap.size=w.heap.size+3:=by rw [ui,cZ]
 have hox3:=uh (aF.alloc (aF.alloc (aF.alloc hox.out (.cells #[.int .i64 a,.int .i64 b] 28)) (.cells #[.bool s1,.slice ax lx cx,.bool s2,.slice az lz cz] 120)) (.cells #[.bool false,.slice none 0 0] 106))
 have hoz3:=uh (aF.alloc (aF.alloc (aF.alloc hoz.out (.cells #[.int .i64 a,.int .i64 b] 28)) (.cells #[.bool s1,.slice ax lx cx,.bool s2,.slice az lz cz] 120)) (.cells #[.bool false,.slice none 0 0] 106))
 clear hox hoz
 generalize hw3:((w.alloc (.cells #[.int .i64 a,.int .i64 b] 28)).alloc (.cells #[.bool s1,.slice ax lx cx,.bool s2,.slice az lz cz] 120)).alloc (.cells #[.bool false,.slice none 0 0] 106)=w3 at *
 have e0:=b2.aR.c0
 have e1:=b2.aR.c1
 have e2:=b2.aR.c2
 have e3:=b2.aR.c3
 go_enter Tryz.func135,Tryz.ntmps135
 go_wp2
 go_upto_region 1 with fail
 go_cut [5,6] (fun p q wx=>∃ gx gz,w.heap.size+3≤gx∧w.heap.size+3≤gz∧p=.pointer (some ⟨gx,0,none⟩)∧q=.pointer (some ⟨gz,0,none⟩)∧aH wx gx 106 #[.bool s1,.slice ax lx cx]∧aH wx gz 106 #[.bool s2,.slice az lz cz]∧Below (w.heap.size+3) w3 wx)
 case first=>
  go_region
  all_goals
   go_wp2_with fail
   go_meet
   first
   | exact (mK _ _ hz3 _ _ _ _ _).1
   | exact (mK _ _ hz3 _ _ _ _ _).2
 case rest=>
 obtain ⟨gx,gz,hgx,hgz,rfl,rfl,X,Z,hbx⟩:=hcut
 rw [←hz3] at hbx
 have ox:=uh (aF.below hox3.out hbx)
 have oz:=uh (aF.below hoz3.out hbx)
 have C:=b1.keep hbx
 have R:=b3.keep hbx
 have hw:=hB.trans (hbx.mono hB.size)
 have hzw:w.heap.size+3≤wc.heap.size:=by have:=hbx.size;omega
 clear hz3
 clear b1 b2 b3 e0 e1 e2 e3 hB hbx hox3 hoz3
 go_upto_region 2 with fail
 refine Rg.bF 24 [.is (.agg #[.bool s1,.slice ax lx cx]),.is (.agg #[.bool s1,.slice ax lx cx]),.is (.agg #[.bool s1,.slice ax lx cx]),.at (b7 (wc.heap.size) [x,x,x]),.at (aJ (wc.heap.size) (p1_)),.is (.pointer (some ⟨w.heap.size,0,none⟩)),.is (.int .i64 a),.at (aJ (wc.heap.size) (a)),.is (.agg #[.bool s1,.slice ax lx cx]),.is (.agg #[.bool s2,.slice az lz cz]),.is (.agg #[.bool s2,.slice az lz cz]),.at (b7 (wc.heap.size) [a,x,z,z]),.at (aJ (wc.heap.size) (p2_)),.is (.pointer (some ⟨w.heap.size,1,none⟩)),.is (.int .i64 b),.at (aJ (wc.heap.size) (b)),.is (.agg #[.bool s2,.slice az lz cz]),.is (.agg #[.bool s2,.slice az lz cz]),.is (.agg #[.bool s2,.slice az lz cz]),.at (b7 (wc.heap.size) [b,z,z,z]),.at (aJ (wc.heap.size) (p3_)),.at (b7 (wc.heap.size) [p1_,p2_,p3_]),.at (aJ (wc.heap.size) (p5_)),.new (wc.heap.size) 106 #[.bool false,.slice none 0 0]] (by kernel_rfl) (by kernel_rfl) (by kernel_rfl) ⟨?_,?_,?_,?_,?_,?_,?_,?_,?_,?_,?_,?_,?_,?_,?_,?_,?_,?_,?_,?_,?_,?_,?_,?_,fun h_=>absurd h_ (by decide),trivial⟩ ?_
 ·intro _ ac_ w_ hB hr
  have e5:ac_.tmps[5]?=some (.pointer (some ⟨gx,0,none⟩)):=hr 5 (by decide)
  have k0:=aE hB X.box.c0
  have k1:=aE hB X.box.c1
  exact Rg.aG rfl (by go_simp)
 ·intro _ ac_ w_ hB hr
  have e5:ac_.tmps[5]?=some (.pointer (some ⟨gx,0,none⟩)):=hr 5 (by decide)
  have k0:=aE hB X.box.c0
  have k1:=aE hB X.box.c1
  exact Rg.aG rfl (by go_simp)
 ·intro _ ac_ w_ hB hr
  have e5:ac_.tmps[5]?=some (.pointer (some ⟨gx,0,none⟩)):=hr 5 (by decide)
  have k0:=aE hB X.box.c0
  have k1:=aE hB X.box.c1
  exact Rg.aG rfl (by go_simp)
 ·intro _ ac_ w_ hB hr
  have e12:=Rg.ev1 (hr 12 (by decide))
  have e13:=Rg.ev1 (hr 13 (by decide))
  have e14:=Rg.ev1 (hr 14 (by decide))
  refine Rg.jS rfl (x:=.slice (some ⟨w_.heap.size,0,none⟩) 3 3) (ob:=.cells (List.toArray [.bool s1,.slice ax lx cx,.bool s1,.slice ax lx cx,.bool s1,.slice ax lx cx]) 106) (by first | (go_simp;done) | (go_simp;exact ⟨rfl,rfl⟩) | (go_simp;rfl)) (b7.at (by have:=hB.size;omega) ?_ rfl)
  exact bV.cons hs1.out (aF.below ox.out hB) (bV.cons hs1.out (aF.below ox.out hB) (bV.cons hs1.out (aF.below ox.out hB) (bV.nil)))
 ·intro _ ac_ w_ hB hr
  obtain ⟨v15,e15,n15⟩:∃ v,ac_.tmps[15]?=some v∧(Rg.Val.at (b7 (wc.heap.size) [x,x,x])).ok v w_:=hr 15 (by decide)
  obtain ⟨g15,rfl,o15⟩:=Rg.aZ n15
  have ef:=Rg.ef ac_
  refine Rg.aX rfl (by go_simp;exact ⟨rfl,rfl⟩) ?_
  refine (R1.out _ _ _ o15).mono ?_
  rintro e w5 ⟨sl5,rfl,ho5,hb5⟩
  exact ⟨_,rfl,aJ.at ho5 (by have:=hB.size;omega),hb5⟩
 ·intro _ ac_ w_ hB hr
  have e2:ac_.tmps[2]?=some (.pointer (some ⟨w.heap.size,0,none⟩)):=hr 2 (by decide)
  exact Rg.aG rfl (by go_simp)
 ·intro _ ac_ w_ hB hr
  have e17:=Rg.ev1 (hr 17 (by decide))
  have k0:=aE hB C.box.c0
  exact Rg.aG rfl (by go_simp)
 ·intro _ ac_ w_ hB hr
  have e18:=Rg.ev1 (hr 18 (by decide))
  have ef:=Rg.ef ac_
  refine Rg.aX rfl (by go_simp;exact ⟨rfl,rfl⟩) ?_
  refine (N1.out _).mono ?_
  rintro e w5 ⟨sl5,rfl,ho5,hb5⟩
  exact ⟨_,rfl,aJ.at ho5 (by have:=hB.size;omega),hb5⟩
 ·intro _ ac_ w_ hB hr
  have e5:ac_.tmps[5]?=some (.pointer (some ⟨gx,0,none⟩)):=hr 5 (by decide)
  have k0:=aE hB X.box.c0
  have k1:=aE hB X.box.c1
  exact Rg.aG rfl (by go_simp)
 ·intro _ ac_ w_ hB hr
  have e6:ac_.tmps[6]?=some (.pointer (some ⟨gz,0,none⟩)):=hr 6 (by decide)
  have k0:=aE hB Z.box.c0
  have k1:=aE hB Z.box.c1
  exact Rg.aG rfl (by go_simp)
 ·intro _ ac_ w_ hB hr
  have e6:ac_.tmps[6]?=some (.pointer (some ⟨gz,0,none⟩)):=hr 6 (by decide)
  have k0:=aE hB Z.box.c0
  have k1:=aE hB Z.box.c1
  exact Rg.aG rfl (by go_simp)
 ·intro _ ac_ w_ hB hr
  obtain ⟨v19,e19,n19⟩:∃ v,ac_.tmps[19]?=some v∧(Rg.Val.at (aJ (wc.heap.size) (a))).ok v w_:=hr 19 (by decide)
  obtain ⟨s19,a19,l19,c19,hs19,rfl,o19⟩:=(Rg.aZ n19).view
  have e20:=Rg.ev1 (hr 20 (by decide))
  have e21:=Rg.ev1 (hr 21 (by decide))
  have e22:=Rg.ev1 (hr 22 (by decide))
  refine Rg.jS rfl (x:=.slice (some ⟨w_.heap.size,0,none⟩) 4 4) (ob:=.cells (List.toArray [.bool s19,.slice a19 l19 c19,.bool s1,.slice ax lx cx,.bool s2,.slice az lz cz,.bool s2,.slice az lz cz]) 106) (by first | (go_simp;done) | (go_simp;exact ⟨rfl,rfl⟩) | (go_simp;rfl)) (b7.at (by have:=hB.size;omega) ?_ rfl)
  exact bV.cons hs19.out o19 (bV.cons hs1.out (aF.below ox.out hB) (bV.cons hs2.out (aF.below oz.out hB) (bV.cons hs2.out (aF.below oz.out hB) (bV.nil))))
 ·intro _ ac_ w_ hB hr
  obtain ⟨v23,e23,n23⟩:∃ v,ac_.tmps[23]?=some v∧(Rg.Val.at (b7 (wc.heap.size) [a,x,z,z])).ok v w_:=hr 23 (by decide)
  obtain ⟨g23,rfl,o23⟩:=Rg.aZ n23
  have ef:=Rg.ef ac_
  refine Rg.aX rfl (by go_simp;exact ⟨rfl,rfl⟩) ?_
  refine (R2.out _ _ _ o23).mono ?_
  rintro e w5 ⟨sl5,rfl,ho5,hb5⟩
  exact ⟨_,rfl,aJ.at ho5 (by have:=hB.size;omega),hb5⟩
 ·intro _ ac_ w_ hB hr
  have e2:ac_.tmps[2]?=some (.pointer (some ⟨w.heap.size,0,none⟩)):=hr 2 (by decide)
  exact Rg.aG rfl (by go_simp)
 ·intro _ ac_ w_ hB hr
  have e25:=Rg.ev1 (hr 25 (by decide))
  have k1:=aE hB C.box.c1
  exact Rg.aG rfl (by go_simp)
 ·intro _ ac_ w_ hB hr
  have e26:=Rg.ev1 (hr 26 (by decide))
  have ef:=Rg.ef ac_
  refine Rg.aX rfl (by go_simp;exact ⟨rfl,rfl⟩) ?_
  refine (N2.out _).mono ?_
  rintro e w5 ⟨sl5,rfl,ho5,hb5⟩
  exact ⟨_,rfl,aJ.at ho5 (by have:=hB.size;omega),hb5⟩
 ·intro _ ac_ w_ hB hr
  have e6:ac_.tmps[6]?=some (.pointer (some ⟨gz,0,none⟩)):=hr 6 (by decide)
  have k0:=aE hB Z.box.c0
  have k1:=aE hB Z.box.c1
  exact Rg.aG rfl (by go_simp)
 ·intro _ ac_ w_ hB hr
  have e6:ac_.tmps[6]?=some (.pointer (some ⟨gz,0,none⟩)):=hr 6 (by decide)
  have k0:=aE hB Z.box.c0
  have k1:=aE hB Z.box.c1
  exact Rg.aG rfl (by go_simp)
 ·intro _ ac_ w_ hB hr
  have e6:ac_.tmps[6]?=some (.pointer (some ⟨gz,0,none⟩)):=hr 6 (by decide)
  have k0:=aE hB Z.box.c0
  have k1:=aE hB Z.box.c1
  exact Rg.aG rfl (by go_simp)
 ·intro _ ac_ w_ hB hr
  obtain ⟨v27,e27,n27⟩:∃ v,ac_.tmps[27]?=some v∧(Rg.Val.at (aJ (wc.heap.size) (b))).ok v w_:=hr 27 (by decide)
  obtain ⟨s27,a27,l27,c27,hs27,rfl,o27⟩:=(Rg.aZ n27).view
  have e28:=Rg.ev1 (hr 28 (by decide))
  have e29:=Rg.ev1 (hr 29 (by decide))
  have e30:=Rg.ev1 (hr 30 (by decide))
  refine Rg.jS rfl (x:=.slice (some ⟨w_.heap.size,0,none⟩) 4 4) (ob:=.cells (List.toArray [.bool s27,.slice a27 l27 c27,.bool s2,.slice az lz cz,.bool s2,.slice az lz cz,.bool s2,.slice az lz cz]) 106) (by first | (go_simp;done) | (go_simp;exact ⟨rfl,rfl⟩) | (go_simp;rfl)) (b7.at (by have:=hB.size;omega) ?_ rfl)
  exact bV.cons hs27.out o27 (bV.cons hs2.out (aF.below oz.out hB) (bV.cons hs2.out (aF.below oz.out hB) (bV.cons hs2.out (aF.below oz.out hB) (bV.nil))))
 ·intro _ ac_ w_ hB hr
  obtain ⟨v31,e31,n31⟩:∃ v,ac_.tmps[31]?=some v∧(Rg.Val.at (b7 (wc.heap.size) [b,z,z,z])).ok v w_:=hr 31 (by decide)
  obtain ⟨g31,rfl,o31⟩:=Rg.aZ n31
  have ef:=Rg.ef ac_
  refine Rg.aX rfl (by go_simp;exact ⟨rfl,rfl⟩) ?_
  refine (R3.out _ _ _ o31).mono ?_
  rintro e w5 ⟨sl5,rfl,ho5,hb5⟩
  exact ⟨_,rfl,aJ.at ho5 (by have:=hB.size;omega),hb5⟩
 ·intro _ ac_ w_ hB hr
  obtain ⟨v16,e16,n16⟩:∃ v,ac_.tmps[16]?=some v∧(Rg.Val.at (aJ (wc.heap.size) (p1_))).ok v w_:=hr 16 (by decide)
  obtain ⟨s16,a16,l16,c16,hs16,rfl,o16⟩:=(Rg.aZ n16).view
  obtain ⟨v24,e24,n24⟩:∃ v,ac_.tmps[24]?=some v∧(Rg.Val.at (aJ (wc.heap.size) (p2_))).ok v w_:=hr 24 (by decide)
  obtain ⟨s24,a24,l24,c24,hs24,rfl,o24⟩:=(Rg.aZ n24).view
  obtain ⟨v32,e32,n32⟩:∃ v,ac_.tmps[32]?=some v∧(Rg.Val.at (aJ (wc.heap.size) (p3_))).ok v w_:=hr 32 (by decide)
  obtain ⟨s32,a32,l32,c32,hs32,rfl,o32⟩:=(Rg.aZ n32).view
  refine Rg.jS rfl (x:=.slice (some ⟨w_.heap.size,0,none⟩) 3 3) (ob:=.cells (List.toArray [.bool s16,.slice a16 l16 c16,.bool s24,.slice a24 l24 c24,.bool s32,.slice a32 l32 c32]) 106) (by first | (go_simp;done) | (go_simp;exact ⟨rfl,rfl⟩) | (go_simp;rfl)) (b7.at (by have:=hB.size;omega) ?_ rfl)
  exact bV.cons hs16.out o16 (bV.cons hs24.out o24 (bV.cons hs32.out o32 (bV.nil)))
 ·intro _ ac_ w_ hB hr
  obtain ⟨v33,e33,n33⟩:∃ v,ac_.tmps[33]?=some v∧(Rg.Val.at (b7 (wc.heap.size) [p1_,p2_,p3_])).ok v w_:=hr 33 (by decide)
  obtain ⟨g33,rfl,o33⟩:=Rg.aZ n33
  have ef:=Rg.ef ac_
  refine Rg.aX rfl (by go_simp;exact ⟨rfl,rfl⟩) ?_
  refine (R5.out _ _ _ o33).mono ?_
  rintro e w5 ⟨sl5,rfl,ho5,hb5⟩
  exact ⟨_,rfl,aJ.at ho5 (by have:=hB.size;omega),hb5⟩
 ·intro _ ac_ w_ hB hr
  exact ⟨by have:=hB.size;omega,rfl,by first | (go_simp;done) | (go_simp;rfl)⟩
 intro vals wz hB hv hne
 have n7:(Rg.Val.new (wc.heap.size) 106 #[.bool false,.slice none 0 0]).ok (vals 23) wz:=hv 23 (by decide)
 have n34:(Rg.Val.at (aJ (wc.heap.size) (p5_))).ok (vals 22) wz:=hv 22 (by decide)
 simp only [Rg.am,Rg.fill,Act.put,Nat.reduceAdd]
 clear hv
 obtain ⟨g7,hg7,v_23,o7⟩:=n7
 replace o7:aH wz g7 106 #[.bool false,.slice none 0 0]:=o7
 obtain ⟨s34,a34,l34,c34,hs34,v_22,o34⟩:=(Rg.aZ n34).view
 simp only [v_23,v_22]
 clear v_23 v_22
 have hB2:Below wc.heap.size wc ((wz.setCell ⟨g7,0,none⟩ (.bool s34)).setCell ⟨g7,1,none⟩ (.slice a34 l34 c34)):=uj (uj hB hg7 _) hg7 _
 have D:=aH.set2 o7 (.bool s34) (.slice a34 l34 c34)
 have oD:=uh (aF.bC o34 o7 (by decide) (.bool s34) (.slice a34 l34 c34))
 have ⟨c0,c1,f0,f1,_⟩:=o7.box
 unfold Rg.aV Rg.aV Oper.wp
 go_simp
 clear c0 c1 f0 f1 o7 o34
 generalize ((wz.setCell ⟨g7,0,none⟩ (.bool s34)).setCell ⟨g7,1,none⟩ (.slice a34 l34 c34))=wd at *
 replace Z:=Z.keep hB2
 replace R:=R.keep hB2
 replace oz:=uh (aF.below oz.out hB2)
 replace hw:=hw.trans (hB2.mono hw.size)
 have hzw2:wc.heap.size≤wd.heap.size:=hB2.size
 go_upto_region 3 with fail
 clear hB2
 refine Rg.bF 5 [.at (aJ (wd.heap.size) (4)),.is (.agg #[.bool s2,.slice az lz cz]),.is (.agg #[.bool s34,.slice a34 l34 c34]),.at (b7 (wd.heap.size) [4,z,p5_]),.at (aJ (wd.heap.size) (F))] (by kernel_rfl) (by kernel_rfl) (by kernel_rfl) ⟨?_,?_,?_,?_,?_,fun h_=>absurd h_ (by decide),trivial⟩ ?_
 ·intro _ ac_ w_ hB hr
  have ec:=Rg.ec ac_
  have ef:=Rg.ef ac_
  refine Rg.aX rfl (by go_simp;exact ⟨rfl,rfl⟩) ?_
  refine (N3.out _).mono ?_
  rintro e w5 ⟨sl5,rfl,ho5,hb5⟩
  exact ⟨_,rfl,aJ.at ho5 (by have:=hB.size;omega),hb5⟩
 ·intro _ ac_ w_ hB hr
  have e6:ac_.tmps[6]?=some (.pointer (some ⟨gz,0,none⟩)):=hr 6 (by decide)
  have k0:=aE hB Z.box.c0
  have k1:=aE hB Z.box.c1
  exact Rg.aG rfl (by go_simp)
 ·intro _ ac_ w_ hB hr
  have e7:ac_.tmps[7]?=some (.pointer (some ⟨g7,0,none⟩)):=hr 7 (by decide)
  have k0:=aE hB D.box.c0
  have k1:=aE hB D.box.c1
  exact Rg.aG rfl (by go_simp)
 ·intro _ ac_ w_ hB hr
  obtain ⟨v35,e35,n35⟩:∃ v,ac_.tmps[35]?=some v∧(Rg.Val.at (aJ (wd.heap.size) (4))).ok v w_:=hr 35 (by decide)
  obtain ⟨s35,a35,l35,c35,hs35,rfl,o35⟩:=(Rg.aZ n35).view
  have e36:=Rg.ev1 (hr 36 (by decide))
  have e37:=Rg.ev1 (hr 37 (by decide))
  refine Rg.jS rfl (x:=.slice (some ⟨w_.heap.size,0,none⟩) 3 3) (ob:=.cells (List.toArray [.bool s35,.slice a35 l35 c35,.bool s2,.slice az lz cz,.bool s34,.slice a34 l34 c34]) 106) (by first | (go_simp;done) | (go_simp;exact ⟨rfl,rfl⟩) | (go_simp;rfl)) (b7.at (by have:=hB.size;omega) ?_ rfl)
  exact bV.cons hs35.out o35 (bV.cons hs2.out (aF.below oz.out hB) (bV.cons hs34.out (aF.below oD.out hB) (bV.nil)))
 ·intro _ ac_ w_ hB hr
  obtain ⟨v38,e38,n38⟩:∃ v,ac_.tmps[38]?=some v∧(Rg.Val.at (b7 (wd.heap.size) [4,z,p5_])).ok v w_:=hr 38 (by decide)
  obtain ⟨g38,rfl,o38⟩:=Rg.aZ n38
  have ef:=Rg.ef ac_
  refine Rg.aX rfl (by go_simp;exact ⟨rfl,rfl⟩) ?_
  refine (R6.out _ _ _ o38).mono ?_
  rintro e w5 ⟨sl5,rfl,ho5,hb5⟩
  exact ⟨_,rfl,aJ.at ho5 (by have:=hB.size;omega),hb5⟩
 intro vals wy hB4 hv hne
 have n39:(Rg.Val.at (aJ (wd.heap.size) (F))).ok (vals 4) wy:=hv 4 (by decide)
 simp only [Rg.am,Rg.fill,Act.put,Nat.reduceAdd]
 clear hv
 obtain ⟨s39,a39,l39,c39,hs39,v_4,o39⟩:=(Rg.aZ n39).view
 simp only [v_4]
 clear v_4
 have R2:=R.keep hB4
 have ⟨c0,c1,f0,f1,_⟩:=R2.box
 have hr1:=aF.base (aF.bC o39 R2 (by decide) (.bool s39) (.slice a39 l39 c39)) (show w.heap.size≤wd.heap.size from hw.size)
 have hr2:Below w.heap.size w ((wy.setCell ⟨w.heap.size+1+1,0,none⟩ (.bool s39)).setCell ⟨w.heap.size+1+1,1,none⟩ (.slice a39 l39 c39)):=uj (uj (hw.trans (hB4.mono hw.size)) (by simp <;> omega) _) (by simp <;> omega) _
 unfold Rg.aV Rg.aV Oper.wp
 go_simp
 go_wp2
 exact bodyPost_ret (v:=.agg #[.bool s39,.slice a39 l39 c39]) (by simp [results,Tryz.results135,go_sem, *]) rfl (⟨_,by rw [hs39.out],hr1,hr2⟩)
end
end Go.Proofs.YtgfkcoablfjbcaaGreatDoor
