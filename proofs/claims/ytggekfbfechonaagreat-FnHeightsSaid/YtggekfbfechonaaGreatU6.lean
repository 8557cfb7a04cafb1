/-
  Joined texts: contracts and plain lemmas.
-/
import Derived.Test.YtggekfbfechonaaGreatU1
import Derived.Test.YtggekfbfechonaaGreatU5
set_option linter.unusedSimpArgs false
set_option linter.unusedVariables false
set_option maxRecDepth 100000
set_option maxHeartbeats 8000000
namespace Go.Proofs.YtggekfbfechonaaGreat
section
open Go.RowKit
theorem mO (w3:World) (n:Nat) (hn:w3.heap.size=n) (u v x y:Value) (T:TypeId) :
  (∃ gx gz,n≤gx∧n≤gz∧Value.pointer (some ⟨n,0,none⟩)=.pointer (some ⟨gx,0,none⟩)∧Value.pointer (some ⟨n+1,0,none⟩)=.pointer (some ⟨gz,0,none⟩)∧aH ((w3.alloc (.cells #[u,v] T)).alloc (.cells #[x,y] T)).drew gx T #[u,v]∧aH ((w3.alloc (.cells #[u,v] T)).alloc (.cells #[x,y] T)).drew gz T #[x,y]∧Below n w3 ((w3.alloc (.cells #[u,v] T)).alloc (.cells #[x,y] T)).drew)∧
  (∃ gx gz,n≤gx∧n≤gz∧Value.pointer (some ⟨n+1,0,none⟩)=.pointer (some ⟨gx,0,none⟩)∧Value.pointer (some ⟨n,0,none⟩)=.pointer (some ⟨gz,0,none⟩)∧aH ((w3.alloc (.cells #[u,v] T)).alloc (.cells #[x,y] T)).drew gx T #[x,y]∧aH ((w3.alloc (.cells #[u,v] T)).alloc (.cells #[x,y] T)).drew gz T #[u,v]∧Below n w3 ((w3.alloc (.cells #[u,v] T)).alloc (.cells #[x,y] T)).drew):=by
 subst hn;have h1:aH ((w3.alloc (.cells #[u,v] T)).alloc (.cells #[x,y] T)).drew w3.heap.size T #[u,v]:=(aH.new w3 #[u,v] T).alloc _
 have h2:aH ((w3.alloc (.cells #[u,v] T)).alloc (.cells #[x,y] T)).drew (w3.heap.size+1) T #[x,y]:=by
  have:=aH.new (w3.alloc (.cells #[u,v] T)) #[x,y] T;rw [wN] at this;exact this
 have hb:Below w3.heap.size w3 ((w3.alloc (.cells #[u,v] T)).alloc (.cells #[x,y] T)).drew:=(((wP _ _).alloc (wQ _) _).alloc (by rw [wN];omega) _).drew;exact ⟨⟨_,_,wQ _,Nat.le_succ _,rfl,rfl,h1,h2,hb⟩,⟨_,_,Nat.le_succ _,wQ _,rfl,rfl,h2,h1,hb⟩⟩
theorem fi (a b x z:Int) (vx vz:Value) (w:World) (bx bz:Nat) (hox:ak w bx vx x) (xj:ak w bz vz z) (hx:Wh.sz x 1000) (hz:Wh.sz z 1000) (ha1:-1000≤a) (ha2:a≤1000) (hb1:-10000≤b) (hb2:b≤10000) :
  Calls Tryz.prog 180 #[.agg #[.int .i64 a,.int .i64 b],.agg #[.bool (decide (x<0)),vx,.bool (decide (z<0)),vz]] w fun e w'=>∃ sl,e=.returned (.agg #[.bool (decide (Wh.ay a b x z<0)),sl])∧ak w' w.heap.size sl (Wh.ay a b x z)∧Below w.heap.size w w':=by
 obtain ⟨ax,cx,rfl,-,-⟩:=aF.view hox;obtain ⟨az,cz,rfl,-,-⟩:=aF.view xj;have hq1:Wh.sz (-2*a) 1000:=Wh.aN (Wh.bS (by omega) (by omega)) (by omega);have hq2:Wh.sz (-8*b) 1000:=Wh.aN (Wh.bS (by omega) (by omega)) (by omega);have haa:-1000000≤a*a∧a*a≤1000000:=M.aK (x:=a) (y:=a) (m:=1000) (n:=1000) (by omega) (by omega) (by omega) (by omega);have hq3:Wh.sz (a*a) 1000:=Wh.aN (Wh.bS (by omega) (by omega)) (by omega)
 have mm:∀ (l:List Int),(∀ y ∈ l,Wh.sz y 1000)→l.length≤5→∀ k,Wh.small ((l.take k).foldl (·*·) 1):=fun l h hl k=>Wh.bo (Wh.aN (Wh.gJ h k) (show 1+l.length*1000≤8000 by omega)) (by omega)
 have mp:∀ (l:List Int),(∀ y ∈ l,Wh.sz y 1000)→l.length≤5→Wh.sz (l.foldl (·*·) 1) 6000:=fun l h hl=>by have:=Wh.gJ h l.length;rw [List.take_length] at this;exact Wh.aN this (by omega)
 have m0:∀ (l:List Int),(∀ y ∈ l,Wh.sz y 1000)→∀ y ∈ l,Wh.small y:=fun l h y hy=>Wh.bo (h y hy) (by omega)
 have m1:∀ y ∈ ([x,x,x,x]:List Int),Wh.sz y 1000:=by intro y h;simp only [List.mem_cons,List.not_mem_nil,or_false] at h;rcases h with h | h | h | h <;> (subst h;assumption)
 have R1:=fun g cap W (h:bX W g [x,x,x,x])=>bT [x,x,x,x] g cap W h (by simp) (m0 _ m1) (mm _ m1 (by simp))
 have p1:=mp _ m1 (by simp)
 have m2:∀ y ∈ ([-2*a,x,x,z,z]:List Int),Wh.sz y 1000:=by intro y h;simp only [List.mem_cons,List.not_mem_nil,or_false] at h;rcases h with h | h | h | h | h <;> (subst h;assumption)
 have R2:=fun g cap W (h:bX W g [-2*a,x,x,z,z])=>bT [-2*a,x,x,z,z] g cap W h (by simp) (m0 _ m2) (mm _ m2 (by simp))
 have p2:=mp _ m2 (by simp)
 have m3:∀ y ∈ ([-8*b,x,z,z,z]:List Int),Wh.sz y 1000:=by intro y h;simp only [List.mem_cons,List.not_mem_nil,or_false] at h;rcases h with h | h | h | h | h <;> (subst h;assumption)
 have R3:=fun g cap W (h:bX W g [-8*b,x,z,z,z])=>bT [-8*b,x,z,z,z] g cap W h (by simp) (m0 _ m3) (mm _ m3 (by simp))
 have p3:=mp _ m3 (by simp)
 have m4:∀ y ∈ ([a*a,z,z,z,z]:List Int),Wh.sz y 1000:=by intro y h;simp only [List.mem_cons,List.not_mem_nil,or_false] at h;rcases h with h | h | h | h | h <;> (subst h;assumption)
 have R4:=fun g cap W (h:bX W g [a*a,z,z,z,z])=>bT [a*a,z,z,z,z] g cap W h (by simp) (m0 _ m4) (mm _ m4 (by simp))
 have p4:=mp _ m4 (by simp);have hT:=Wh.pt a b x z;generalize hp1:([x,x,x,x]:List Int).foldl (·*·) 1=Ac at *;generalize hp2:([-2*a,x,x,z,z]:List Int).foldl (·*·) 1=Ad at *;generalize hp3:([-8*b,x,z,z,z]:List Int).foldl (·*·) 1=Ae at *;generalize Gy:([a*a,z,z,z,z]:List Int).foldl (·*·) 1=FW at *
 have ms:∀ y ∈ [Ac,Ad,Ae,FW],Wh.sz y 6000:=by intro y h;simp only [List.mem_cons,List.not_mem_nil,or_false] at h;rcases h with h | h | h | h <;> (subst h;assumption)
 have R5:=fun g cap W (h:bX W g [Ac,Ad,Ae,FW])=>iF [Ac,Ad,Ae,FW] g cap W h (by simp) (fun y hy=>Wh.bo (ms y hy) (by omega)) (fun k=>Wh.bo (Wh.aN (Wh.km ms (by omega) k) (show 6000+4≤7000 by omega)) (by omega))
 rw [hT] at R5
 have N1:=fun W=>bV (-2*a) W (by omega) (by omega)
 have N2:=fun W=>bV (-8*b) W (by omega) (by omega)
 have N3:=fun W=>bV (a*a) W (by omega) (by omega)
 have i1:IntKind.i64.wrap (-2*a)=-2*a:=IntWalk.i64_in _ (by omega);have i2:IntKind.i64.wrap (-8*b)=-8*b:=IntWalk.i64_in _ (by omega);have i3:IntKind.i64.wrap (a*a)=a*a:=IntWalk.i64_in _ (by omega);clear m1 m2 m3 m4 p1 p2 p3 p4 hp1 hp2 hp3 Gy ms mm mp m0 hT;replace R1:=wM R1;replace R2:=wM R2;replace R3:=wM R3;replace R4:=wM R4;replace R5:=wM R5;replace N1:=wM N1;replace N2:=wM N2;replace N3:=wM N3;replace i1:=wM i1;replace i2:=wM i2;replace i3:=wM i3;generalize hF:Wh.ay a b x z=F at *;clear hF;generalize hs1:decide (x<0)=s1 at *;replace hs1:=wM hs1.symm;generalize hs2:decide (z<0)=s2 at *;replace hs2:=wM hs2.symm;replace hox:=wM (show aF _ _ _ _ from hox);replace xj:=wM (show aF _ _ _ _ from xj);generalize (Wh.a_ z.natAbs).length=lz,(Wh.a_ x.natAbs).length=lx at *;have b1:=((aH.new w #[.int .i64 a,.int .i64 b] 25).alloc (.cells #[.bool s1,.slice ax lx cx,.bool s2,.slice az lz cz] 127)).alloc (.cells #[.bool false,.slice none 0 0] 125);have b2:=(aH.new (w.alloc (.cells #[.int .i64 a,.int .i64 b] 25)) #[.bool s1,.slice ax lx cx,.bool s2,.slice az lz cz] 127).alloc (.cells #[.bool false,.slice none 0 0] 125);rw [wN] at b2;have b3:=aH.new ((w.alloc (.cells #[.int .i64 a,.int .i64 b] 25)).alloc (.cells #[.bool s1,.slice ax lx cx,.bool s2,.slice az lz cz] 127)) #[.bool false,.slice none 0 0] 125;rw [cW] at b3;have hB:=(((wP w.heap.size w).alloc (wQ _) (.cells #[.int .i64 a,.int .i64 b] 25)).alloc (by rw [wN];omega) (.cells #[.bool s1,.slice ax lx cx,.bool s2,.slice az lz cz] 127)).alloc (by rw [cW];omega) (.cells #[.bool false,.slice none 0 0] 125)
 have hz3:(((w.alloc (.cells #[.int .i64 a,.int .i64 b] 25)).alloc (.cells #[.bool s1,.slice ax lx cx,.bool s2,.slice az lz cz] 127)).alloc (.cells #[.bool false,.slice none 0 0] 125)).heap.size=w.heap.size+3:=by rw [wN,cW]
 have zV:=wM (aF.alloc (aF.alloc (aF.alloc hox.out (.cells #[.int .i64 a,.int .i64 b] 25)) (.cells #[.bool s1,.slice ax lx cx,.bool s2,.slice az lz cz] 127)) (.cells #[.bool false,.slice none 0 0] 125));have zW:=wM (aF.alloc (aF.alloc (aF.alloc xj.out (.cells #[.int .i64 a,.int .i64 b] 25)) (.cells #[.bool s1,.slice ax lx cx,.bool s2,.slice az lz cz] 127)) (.cells #[.bool false,.slice none 0 0] 125));clear hox xj;generalize hw3:((w.alloc (.cells #[.int .i64 a,.int .i64 b] 25)).alloc (.cells #[.bool s1,.slice ax lx cx,.bool s2,.slice az lz cz] 127)).alloc (.cells #[.bool false,.slice none 0 0] 125)=w3 at *;have e0:=b2.aP.c0;have e1:=b2.aP.c1;have e2:=b2.aP.c2;have e3:=b2.aP.c3;go_enter Tryz.func180,Tryz.ntmps180
 go_wp2
 go_upto_region 1 with fail
 go_cut [5,6] (fun p q wx=>∃ gx gz,w.heap.size+3≤gx∧w.heap.size+3≤gz∧p=.pointer (some ⟨gx,0,none⟩)∧q=.pointer (some ⟨gz,0,none⟩)∧aH wx gx 125 #[.bool s1,.slice ax lx cx]∧aH wx gz 125 #[.bool s2,.slice az lz cz]∧Below (w.heap.size+3) w3 wx)
 case first=>
  go_region
  all_goals
   go_wp2_with fail
   go_meet
   first
   | exact (mO _ _ hz3 _ _ _ _ _).1
   | exact (mO _ _ hz3 _ _ _ _ _).2
 case rest=>
 obtain ⟨gx,gz,hgx,hgz,rfl,rfl,X,Z,hbx⟩:=hcut;rw [←hz3] at hbx;have ox:=wM (aF.below zV.out hbx);have oz:=wM (aF.below zW.out hbx);have C:=b1.keep hbx;have R:=b3.keep hbx;have hw:=d_ hB hbx
 have Ba:w.heap.size+3≤wc.heap.size:=by have:=hbx.size;omega
 clear hz3;clear b1 b2 b3 e0 e1 e2 e3 hB hbx zV zW
 go_upto_region 2 with fail
 refine Rg.bO 40 [.is (.agg #[.bool s1,.slice ax lx cx]),.is (.agg #[.bool s1,.slice ax lx cx]),.is (.agg #[.bool s1,.slice ax lx cx]),.is (.agg #[.bool s1,.slice ax lx cx]),.at (bg (wc.heap.size) [x,x,x,x]),.at (aJ (wc.heap.size) (Ac)),.is (.pointer (some ⟨w.heap.size,0,none⟩)),.is (.int .i64 a),.is (.int .i64 ((-2)*a)),.at (aJ (wc.heap.size) (-2*a)),.is (.agg #[.bool s1,.slice ax lx cx]),.is (.agg #[.bool s1,.slice ax lx cx]),.is (.agg #[.bool s2,.slice az lz cz]),.is (.agg #[.bool s2,.slice az lz cz]),.at (bg (wc.heap.size) [-2*a,x,x,z,z]),.at (aJ (wc.heap.size) (Ad)),.is (.pointer (some ⟨w.heap.size,1,none⟩)),.is (.int .i64 b),.is (.int .i64 ((-8)*b)),.at (aJ (wc.heap.size) (-8*b)),.is (.agg #[.bool s1,.slice ax lx cx]),.is (.agg #[.bool s2,.slice az lz cz]),.is (.agg #[.bool s2,.slice az lz cz]),.is (.agg #[.bool s2,.slice az lz cz]),.at (bg (wc.heap.size) [-8*b,x,z,z,z]),.at (aJ (wc.heap.size) (Ae)),.is (.pointer (some ⟨w.heap.size,0,none⟩)),.is (.int .i64 a),.is (.pointer (some ⟨w.heap.size,0,none⟩)),.is (.int .i64 a),.is (.int .i64 (a*a)),.at (aJ (wc.heap.size) (a*a)),.is (.agg #[.bool s2,.slice az lz cz]),.is (.agg #[.bool s2,.slice az lz cz]),.is (.agg #[.bool s2,.slice az lz cz]),.is (.agg #[.bool s2,.slice az lz cz]),.at (bg (wc.heap.size) [a*a,z,z,z,z]),.at (aJ (wc.heap.size) (FW)),.at (bg (wc.heap.size) [Ac,Ad,Ae,FW]),.at (aJ (wc.heap.size) (F))] (by kernel_rfl) (by kernel_rfl) (by kernel_rfl) ⟨?_,?_,?_,?_,?_,?_,?_,?_,?_,?_,?_,?_,?_,?_,?_,?_,?_,?_,?_,?_,?_,?_,?_,?_,?_,?_,?_,?_,?_,?_,?_,?_,?_,?_,?_,?_,?_,?_,?_,?_,fun h_=>absurd h_ (by decide),trivial⟩ ?_
 ·intro _ zZ w_ hB hr
  have e5:zZ.tmps[5]?=some (.pointer (some ⟨gx,0,none⟩)):=hr 5 (by decide);have k0:=aE hB X.box.c0;have k1:=aE hB X.box.c1;exact Rg.aG rfl (by go_simp)
 ·intro _ zZ w_ hB hr
  have e5:zZ.tmps[5]?=some (.pointer (some ⟨gx,0,none⟩)):=hr 5 (by decide);have k0:=aE hB X.box.c0;have k1:=aE hB X.box.c1;exact Rg.aG rfl (by go_simp)
 ·intro _ zZ w_ hB hr
  have e5:zZ.tmps[5]?=some (.pointer (some ⟨gx,0,none⟩)):=hr 5 (by decide);have k0:=aE hB X.box.c0;have k1:=aE hB X.box.c1;exact Rg.aG rfl (by go_simp)
 ·intro _ zZ w_ hB hr
  have e5:zZ.tmps[5]?=some (.pointer (some ⟨gx,0,none⟩)):=hr 5 (by decide);have k0:=aE hB X.box.c0;have k1:=aE hB X.box.c1;exact Rg.aG rfl (by go_simp)
 ·intro _ zZ w_ hB hr
  have e11:=Rg.c_ (hr 11 (by decide));have e12:=Rg.c_ (hr 12 (by decide));have e13:=Rg.c_ (hr 13 (by decide));have e14:=Rg.c_ (hr 14 (by decide));refine Rg.jR rfl (x:=.slice (some ⟨w_.heap.size,0,none⟩) 4 4) (ob:=.cells (List.toArray [.bool s1,.slice ax lx cx,.bool s1,.slice ax lx cx,.bool s1,.slice ax lx cx,.bool s1,.slice ax lx cx]) 125) (by first | (go_simp;done) | (go_simp;exact ⟨rfl,rfl⟩) | (go_simp;rfl)) (bg.at (by have:=hB.size;omega) ?_ rfl);exact bU.cons hs1.out (aF.below ox.out hB) (bU.cons hs1.out (aF.below ox.out hB) (bU.cons hs1.out (aF.below ox.out hB) (bU.cons hs1.out (aF.below ox.out hB) (bU.nil))))
 ·intro _ zZ w_ hB hr
  obtain ⟨v15,e15,n15⟩:∃ v,zZ.tmps[15]?=some v∧(Rg.Val.at (bg (wc.heap.size) [x,x,x,x])).ok v w_:=hr 15 (by decide);obtain ⟨g15,rfl,EI⟩:=Rg.ag n15;have ef:=Rg.ef zZ;refine Rg.af rfl (by go_simp;exact ⟨rfl,rfl⟩) ?_;refine (R1.out _ _ _ EI).mono ?_;rintro e w5 ⟨xX,rfl,wl,hb5⟩;exact ⟨_,rfl,aJ.at wl (by have:=hB.size;omega),hb5⟩
 ·intro _ zZ w_ hB hr
  have e2:zZ.tmps[2]?=some (.pointer (some ⟨w.heap.size,0,none⟩)):=hr 2 (by decide);exact Rg.aG rfl (by go_simp)
 ·intro _ zZ w_ hB hr
  have e17:=Rg.c_ (hr 17 (by decide));have k0:=aE hB C.box.c0;exact Rg.aG rfl (by go_simp)
 ·intro _ zZ w_ hB hr
  have e18:=Rg.c_ (hr 18 (by decide));have ec:=Rg.ec zZ;exact Rg.aG rfl (by go_simp <;> exact Rg.wo (by omega))
 ·intro _ zZ w_ hB hr
  have e19:=Rg.c_ (hr 19 (by decide));have ef:=Rg.ef zZ;refine Rg.af rfl (by go_simp;exact ⟨rfl,rfl⟩) ?_;refine (N1.out _).mono ?_;rintro e w5 ⟨xX,rfl,wl,hb5⟩;exact ⟨_,rfl,aJ.at wl (by have:=hB.size;omega),hb5⟩
 ·intro _ zZ w_ hB hr
  have e5:zZ.tmps[5]?=some (.pointer (some ⟨gx,0,none⟩)):=hr 5 (by decide);have k0:=aE hB X.box.c0;have k1:=aE hB X.box.c1;exact Rg.aG rfl (by go_simp)
 ·intro _ zZ w_ hB hr
  have e5:zZ.tmps[5]?=some (.pointer (some ⟨gx,0,none⟩)):=hr 5 (by decide);have k0:=aE hB X.box.c0;have k1:=aE hB X.box.c1;exact Rg.aG rfl (by go_simp)
 ·intro _ zZ w_ hB hr
  have e6:zZ.tmps[6]?=some (.pointer (some ⟨gz,0,none⟩)):=hr 6 (by decide);have k0:=aE hB Z.box.c0;have k1:=aE hB Z.box.c1;exact Rg.aG rfl (by go_simp)
 ·intro _ zZ w_ hB hr
  have e6:zZ.tmps[6]?=some (.pointer (some ⟨gz,0,none⟩)):=hr 6 (by decide);have k0:=aE hB Z.box.c0;have k1:=aE hB Z.box.c1;exact Rg.aG rfl (by go_simp)
 ·intro _ zZ w_ hB hr
  obtain ⟨v20,e20,n20⟩:∃ v,zZ.tmps[20]?=some v∧(Rg.Val.at (aJ (wc.heap.size) (-2*a))).ok v w_:=hr 20 (by decide);obtain ⟨s20,a20,l20,c20,LK,rfl,o20⟩:=(Rg.ag n20).view;have e21:=Rg.c_ (hr 21 (by decide));have e22:=Rg.c_ (hr 22 (by decide));have e23:=Rg.c_ (hr 23 (by decide));have e24:=Rg.c_ (hr 24 (by decide));refine Rg.jR rfl (x:=.slice (some ⟨w_.heap.size,0,none⟩) 5 5) (ob:=.cells (List.toArray [.bool s20,.slice a20 l20 c20,.bool s1,.slice ax lx cx,.bool s1,.slice ax lx cx,.bool s2,.slice az lz cz,.bool s2,.slice az lz cz]) 125) (by first | (go_simp;done) | (go_simp;exact ⟨rfl,rfl⟩) | (go_simp;rfl)) (bg.at (by have:=hB.size;omega) ?_ rfl);exact bU.cons LK.out o20 (bU.cons hs1.out (aF.below ox.out hB) (bU.cons hs1.out (aF.below ox.out hB) (bU.cons hs2.out (aF.below oz.out hB) (bU.cons hs2.out (aF.below oz.out hB) (bU.nil)))))
 ·intro _ zZ w_ hB hr
  obtain ⟨v25,e25,n25⟩:∃ v,zZ.tmps[25]?=some v∧(Rg.Val.at (bg (wc.heap.size) [-2*a,x,x,z,z])).ok v w_:=hr 25 (by decide);obtain ⟨g25,rfl,IJ⟩:=Rg.ag n25;have ef:=Rg.ef zZ;refine Rg.af rfl (by go_simp;exact ⟨rfl,rfl⟩) ?_;refine (R2.out _ _ _ IJ).mono ?_;rintro e w5 ⟨xX,rfl,wl,hb5⟩;exact ⟨_,rfl,aJ.at wl (by have:=hB.size;omega),hb5⟩
 ·intro _ zZ w_ hB hr
  have e2:zZ.tmps[2]?=some (.pointer (some ⟨w.heap.size,0,none⟩)):=hr 2 (by decide);exact Rg.aG rfl (by go_simp)
 ·intro _ zZ w_ hB hr
  have e27:=Rg.c_ (hr 27 (by decide));have k1:=aE hB C.box.c1;exact Rg.aG rfl (by go_simp)
 ·intro _ zZ w_ hB hr
  have e28:=Rg.c_ (hr 28 (by decide));have ec:=Rg.ec zZ;exact Rg.aG rfl (by go_simp <;> exact Rg.wo (by omega))
 ·intro _ zZ w_ hB hr
  have e29:=Rg.c_ (hr 29 (by decide));have ef:=Rg.ef zZ;refine Rg.af rfl (by go_simp;exact ⟨rfl,rfl⟩) ?_;refine (N2.out _).mono ?_;rintro e w5 ⟨xX,rfl,wl,hb5⟩;exact ⟨_,rfl,aJ.at wl (by have:=hB.size;omega),hb5⟩
 ·intro _ zZ w_ hB hr
  have e5:zZ.tmps[5]?=some (.pointer (some ⟨gx,0,none⟩)):=hr 5 (by decide);have k0:=aE hB X.box.c0;have k1:=aE hB X.box.c1;exact Rg.aG rfl (by go_simp)
 ·intro _ zZ w_ hB hr
  have e6:zZ.tmps[6]?=some (.pointer (some ⟨gz,0,none⟩)):=hr 6 (by decide);have k0:=aE hB Z.box.c0;have k1:=aE hB Z.box.c1;exact Rg.aG rfl (by go_simp)
 ·intro _ zZ w_ hB hr
  have e6:zZ.tmps[6]?=some (.pointer (some ⟨gz,0,none⟩)):=hr 6 (by decide);have k0:=aE hB Z.box.c0;have k1:=aE hB Z.box.c1;exact Rg.aG rfl (by go_simp)
 ·intro _ zZ w_ hB hr
  have e6:zZ.tmps[6]?=some (.pointer (some ⟨gz,0,none⟩)):=hr 6 (by decide);have k0:=aE hB Z.box.c0;have k1:=aE hB Z.box.c1;exact Rg.aG rfl (by go_simp)
 ·intro _ zZ w_ hB hr
  obtain ⟨v30,e30,n30⟩:∃ v,zZ.tmps[30]?=some v∧(Rg.Val.at (aJ (wc.heap.size) (-8*b))).ok v w_:=hr 30 (by decide);obtain ⟨s30,a30,l30,c30,LP,rfl,o30⟩:=(Rg.ag n30).view;have e31:=Rg.c_ (hr 31 (by decide));have e32:=Rg.c_ (hr 32 (by decide));have e33:=Rg.c_ (hr 33 (by decide));have e34:=Rg.c_ (hr 34 (by decide));refine Rg.jR rfl (x:=.slice (some ⟨w_.heap.size,0,none⟩) 5 5) (ob:=.cells (List.toArray [.bool s30,.slice a30 l30 c30,.bool s1,.slice ax lx cx,.bool s2,.slice az lz cz,.bool s2,.slice az lz cz,.bool s2,.slice az lz cz]) 125) (by first | (go_simp;done) | (go_simp;exact ⟨rfl,rfl⟩) | (go_simp;rfl)) (bg.at (by have:=hB.size;omega) ?_ rfl);exact bU.cons LP.out o30 (bU.cons hs1.out (aF.below ox.out hB) (bU.cons hs2.out (aF.below oz.out hB) (bU.cons hs2.out (aF.below oz.out hB) (bU.cons hs2.out (aF.below oz.out hB) (bU.nil)))))
 ·intro _ zZ w_ hB hr
  obtain ⟨v35,e35,n35⟩:∃ v,zZ.tmps[35]?=some v∧(Rg.Val.at (bg (wc.heap.size) [-8*b,x,z,z,z])).ok v w_:=hr 35 (by decide);obtain ⟨g35,rfl,L8⟩:=Rg.ag n35;have ef:=Rg.ef zZ;refine Rg.af rfl (by go_simp;exact ⟨rfl,rfl⟩) ?_;refine (R3.out _ _ _ L8).mono ?_;rintro e w5 ⟨xX,rfl,wl,hb5⟩;exact ⟨_,rfl,aJ.at wl (by have:=hB.size;omega),hb5⟩
 ·intro _ zZ w_ hB hr
  have e2:zZ.tmps[2]?=some (.pointer (some ⟨w.heap.size,0,none⟩)):=hr 2 (by decide);exact Rg.aG rfl (by go_simp)
 ·intro _ zZ w_ hB hr
  have e37:=Rg.c_ (hr 37 (by decide));have k0:=aE hB C.box.c0;exact Rg.aG rfl (by go_simp)
 ·intro _ zZ w_ hB hr
  have e2:zZ.tmps[2]?=some (.pointer (some ⟨w.heap.size,0,none⟩)):=hr 2 (by decide);exact Rg.aG rfl (by go_simp)
 ·intro _ zZ w_ hB hr
  have e39:=Rg.c_ (hr 39 (by decide));have k0:=aE hB C.box.c0;exact Rg.aG rfl (by go_simp)
 ·intro _ zZ w_ hB hr
  have e38:=Rg.c_ (hr 38 (by decide));have e40:=Rg.c_ (hr 40 (by decide));exact Rg.aG rfl (by go_simp <;> exact Rg.wo (by omega))
 ·intro _ zZ w_ hB hr
  have e41:=Rg.c_ (hr 41 (by decide));have ef:=Rg.ef zZ;refine Rg.af rfl (by go_simp;exact ⟨rfl,rfl⟩) ?_;refine (N3.out _).mono ?_;rintro e w5 ⟨xX,rfl,wl,hb5⟩;exact ⟨_,rfl,aJ.at wl (by have:=hB.size;omega),hb5⟩
 ·intro _ zZ w_ hB hr
  have e6:zZ.tmps[6]?=some (.pointer (some ⟨gz,0,none⟩)):=hr 6 (by decide);have k0:=aE hB Z.box.c0;have k1:=aE hB Z.box.c1;exact Rg.aG rfl (by go_simp)
 ·intro _ zZ w_ hB hr
  have e6:zZ.tmps[6]?=some (.pointer (some ⟨gz,0,none⟩)):=hr 6 (by decide);have k0:=aE hB Z.box.c0;have k1:=aE hB Z.box.c1;exact Rg.aG rfl (by go_simp)
 ·intro _ zZ w_ hB hr
  have e6:zZ.tmps[6]?=some (.pointer (some ⟨gz,0,none⟩)):=hr 6 (by decide);have k0:=aE hB Z.box.c0;have k1:=aE hB Z.box.c1;exact Rg.aG rfl (by go_simp)
 ·intro _ zZ w_ hB hr
  have e6:zZ.tmps[6]?=some (.pointer (some ⟨gz,0,none⟩)):=hr 6 (by decide);have k0:=aE hB Z.box.c0;have k1:=aE hB Z.box.c1;exact Rg.aG rfl (by go_simp)
 ·intro _ zZ w_ hB hr
  obtain ⟨v42,e42,n42⟩:∃ v,zZ.tmps[42]?=some v∧(Rg.Val.at (aJ (wc.heap.size) (a*a))).ok v w_:=hr 42 (by decide);obtain ⟨s42,a42,l42,c42,LX,rfl,o42⟩:=(Rg.ag n42).view;have e43:=Rg.c_ (hr 43 (by decide));have e44:=Rg.c_ (hr 44 (by decide));have e45:=Rg.c_ (hr 45 (by decide));have e46:=Rg.c_ (hr 46 (by decide));refine Rg.jR rfl (x:=.slice (some ⟨w_.heap.size,0,none⟩) 5 5) (ob:=.cells (List.toArray [.bool s42,.slice a42 l42 c42,.bool s2,.slice az lz cz,.bool s2,.slice az lz cz,.bool s2,.slice az lz cz,.bool s2,.slice az lz cz]) 125) (by first | (go_simp;done) | (go_simp;exact ⟨rfl,rfl⟩) | (go_simp;rfl)) (bg.at (by have:=hB.size;omega) ?_ rfl);exact bU.cons LX.out o42 (bU.cons hs2.out (aF.below oz.out hB) (bU.cons hs2.out (aF.below oz.out hB) (bU.cons hs2.out (aF.below oz.out hB) (bU.cons hs2.out (aF.below oz.out hB) (bU.nil)))))
 ·intro _ zZ w_ hB hr
  obtain ⟨v47,e47,n47⟩:∃ v,zZ.tmps[47]?=some v∧(Rg.Val.at (bg (wc.heap.size) [a*a,z,z,z,z])).ok v w_:=hr 47 (by decide);obtain ⟨g47,rfl,L_⟩:=Rg.ag n47;have ef:=Rg.ef zZ;refine Rg.af rfl (by go_simp;exact ⟨rfl,rfl⟩) ?_;refine (R4.out _ _ _ L_).mono ?_;rintro e w5 ⟨xX,rfl,wl,hb5⟩;exact ⟨_,rfl,aJ.at wl (by have:=hB.size;omega),hb5⟩
 ·intro _ zZ w_ hB hr
  obtain ⟨v16,e16,n16⟩:∃ v,zZ.tmps[16]?=some v∧(Rg.Val.at (aJ (wc.heap.size) (Ac))).ok v w_:=hr 16 (by decide);obtain ⟨s16,a16,BF,c16,z8,rfl,o16⟩:=(Rg.ag n16).view;obtain ⟨v26,e26,n26⟩:∃ v,zZ.tmps[26]?=some v∧(Rg.Val.at (aJ (wc.heap.size) (Ad))).ok v w_:=hr 26 (by decide);obtain ⟨s26,a26,l26,c26,FM,rfl,L6⟩:=(Rg.ag n26).view;obtain ⟨v36,e36,n36⟩:∃ v,zZ.tmps[36]?=some v∧(Rg.Val.at (aJ (wc.heap.size) (Ae))).ok v w_:=hr 36 (by decide);obtain ⟨s36,a36,l36,c36,LT,rfl,o36⟩:=(Rg.ag n36).view;obtain ⟨v48,e48,n48⟩:∃ v,zZ.tmps[48]?=some v∧(Rg.Val.at (aJ (wc.heap.size) (FW))).ok v w_:=hr 48 (by decide);obtain ⟨HJ,a48,G5,Gh,FP,rfl,ME⟩:=(Rg.ag n48).view;refine Rg.jR rfl (x:=.slice (some ⟨w_.heap.size,0,none⟩) 4 4) (ob:=.cells (List.toArray [.bool s16,.slice a16 BF c16,.bool s26,.slice a26 l26 c26,.bool s36,.slice a36 l36 c36,.bool HJ,.slice a48 G5 Gh]) 125) (by first | (go_simp;done) | (go_simp;exact ⟨rfl,rfl⟩) | (go_simp;rfl)) (bg.at (by have:=hB.size;omega) ?_ rfl);exact bU.cons z8.out o16 (bU.cons FM.out L6 (bU.cons LT.out o36 (bU.cons FP.out ME (bU.nil))))
 ·intro _ zZ w_ hB hr
  obtain ⟨v49,e49,n49⟩:∃ v,zZ.tmps[49]?=some v∧(Rg.Val.at (bg (wc.heap.size) [Ac,Ad,Ae,FW])).ok v w_:=hr 49 (by decide);obtain ⟨g49,rfl,o49⟩:=Rg.ag n49;have ef:=Rg.ef zZ;refine Rg.af rfl (by go_simp;exact ⟨rfl,rfl⟩) ?_;refine (R5.out _ _ _ o49).mono ?_;rintro e w5 ⟨xX,rfl,wl,hb5⟩;exact ⟨_,rfl,aJ.at wl (by have:=hB.size;omega),hb5⟩
 intro vals wz hB hv hne;have n50:(Rg.Val.at (aJ (wc.heap.size) (F))).ok (vals 39) wz:=hv 39 (by decide);simp only [Rg.bE,Rg.fill,Act.put,Nat.reduceAdd];clear hv;obtain ⟨ML,a50,Lw,Kk,LZ,He,o50⟩:=(Rg.ag n50).view;simp only [He];clear He;have R2:=R.keep hB;have ⟨c0,c1,f0,f1,_⟩:=R2.box;have hr1:=aF.base (aF.bJ o50 R2 (by decide) (.bool ML) (.slice a50 Lw Kk)) (Nat.le_trans (Nat.le_add_right _ 3) Ba);have hr2:Below w.heap.size w ((wz.setCell ⟨w.heap.size+1+1,0,none⟩ (.bool ML)).setCell ⟨w.heap.size+1+1,1,none⟩ (.slice a50 Lw Kk)):=wO (wO (d_ hw hB) (by simp <;> omega) _) (by simp <;> omega) _;unfold Rg.aZ Rg.aZ Oper.wp
 go_simp
 go_wp2;exact bodyPost_ret (v:=.agg #[.bool ML,.slice a50 Lw Kk]) (by simp [results,Tryz.results180,go_sem, *]) rfl (⟨_,by rw [LZ.out],hr1,hr2⟩)
theorem dX (a b x z:Int) (vx vz:Value) (w:World) (bx bz:Nat) (hox:ak w bx vx x) (xj:ak w bz vz z) (hx:Wh.sz x 1000) (hz:Wh.sz z 1000) (ha1:-1000≤a) (ha2:a≤1000) (hb1:-10000≤b) (hb2:b≤10000) :
  Calls Tryz.prog 154 #[.agg #[.int .i64 a,.int .i64 b],.agg #[.bool (decide (x<0)),vx,.bool (decide (z<0)),vz]] w fun e w'=>∃ sl,e=.returned (.agg #[.bool (decide (Wh.an a b x z<0)),sl])∧ak w' w.heap.size sl (Wh.an a b x z)∧Below w.heap.size w w':=by
 obtain ⟨ax,cx,rfl,-,-⟩:=aF.view hox;obtain ⟨az,cz,rfl,-,-⟩:=aF.view xj;have hq1:Wh.sz a 1000:=Wh.aN (Wh.bS (by omega) (by omega)) (by omega);have hq2:Wh.sz b 1000:=Wh.aN (Wh.bS (by omega) (by omega)) (by omega);have hq3:Wh.sz 4 1000:=Wh.aN (Wh.bS (by omega) (by omega)) (by omega)
 have mm:∀ (l:List Int),(∀ y ∈ l,Wh.sz y 1000)→l.length≤5→∀ k,Wh.small ((l.take k).foldl (·*·) 1):=fun l h hl k=>Wh.bo (Wh.aN (Wh.gJ h k) (show 1+l.length*1000≤8000 by omega)) (by omega)
 have mp:∀ (l:List Int),(∀ y ∈ l,Wh.sz y 1000)→l.length≤4→Wh.sz (l.foldl (·*·) 1) 4001:=fun l h hl=>by have:=Wh.gJ h l.length;rw [List.take_length] at this;exact Wh.aN this (by omega)
 have m0:∀ (l:List Int),(∀ y ∈ l,Wh.sz y 1000)→∀ y ∈ l,Wh.small y:=fun l h y hy=>Wh.bo (h y hy) (by omega)
 have m1:∀ y ∈ ([x,x,x]:List Int),Wh.sz y 1000:=by intro y h;simp only [List.mem_cons,List.not_mem_nil,or_false] at h;rcases h with h | h | h <;> (subst h;assumption)
 have R1:=fun g cap W (h:bX W g [x,x,x])=>bT [x,x,x] g cap W h (by simp) (m0 _ m1) (mm _ m1 (by simp))
 have p1:=mp _ m1 (by simp)
 have m2:∀ y ∈ ([a,x,z,z]:List Int),Wh.sz y 1000:=by intro y h;simp only [List.mem_cons,List.not_mem_nil,or_false] at h;rcases h with h | h | h | h <;> (subst h;assumption)
 have R2:=fun g cap W (h:bX W g [a,x,z,z])=>bT [a,x,z,z] g cap W h (by simp) (m0 _ m2) (mm _ m2 (by simp))
 have p2:=mp _ m2 (by simp)
 have m3:∀ y ∈ ([b,z,z,z]:List Int),Wh.sz y 1000:=by intro y h;simp only [List.mem_cons,List.not_mem_nil,or_false] at h;rcases h with h | h | h | h <;> (subst h;assumption)
 have R3:=fun g cap W (h:bX W g [b,z,z,z])=>bT [b,z,z,z] g cap W h (by simp) (m0 _ m3) (mm _ m3 (by simp))
 have p3:=mp _ m3 (by simp);have hT:=Wh.pC a b x z;generalize hp1:([x,x,x]:List Int).foldl (·*·) 1=Ac at *;generalize hp2:([a,x,z,z]:List Int).foldl (·*·) 1=Ad at *;generalize hp3:([b,z,z,z]:List Int).foldl (·*·) 1=Ae at *
 have ms:∀ y ∈ [Ac,Ad,Ae],Wh.sz y 4001:=by intro y h;simp only [List.mem_cons,List.not_mem_nil,or_false] at h;rcases h with h | h | h <;> (subst h;assumption)
 have R5:=fun g cap W (h:bX W g [Ac,Ad,Ae])=>iF [Ac,Ad,Ae] g cap W h (by simp) (fun y hy=>Wh.bo (ms y hy) (by omega)) (fun k=>Wh.bo (Wh.aN (Wh.km ms (by omega) k) (show 4001+3≤7000 by omega)) (by omega))
 have LH:=Wh.km ms (by omega) 3;rw [show ([Ac,Ad,Ae]:List Int).take 3=[Ac,Ad,Ae] from rfl] at LH;generalize Am:([Ac,Ad,Ae]:List Int).foldl (·+·) 0=FX at *;have LI:Wh.sz FX 4004:=LH
 have R6:=fun g cap W (h:bX W g [4,z,FX])=>bT [4,z,FX] g cap W h (by simp) (by
  intro y h;simp only [List.mem_cons,List.not_mem_nil,or_false] at h;rcases h with h | h | h
  ·subst h;exact Wh.bo hq3 (by omega)
  ·subst h;exact Wh.bo hz (by omega)
  ·subst h;exact Wh.bo LI (by omega)) (fun k=>by
  have y0:=Wh.rk;have y1:=Wh.aw y0 hq3;have y2:=Wh.aw y1 hz;have y3:=Wh.aw y2 LI
  match k with
  | 0=>exact Wh.bo y0 (by omega)
  | 1=>exact Wh.bo y1 (by omega)
  | 2=>exact Wh.bo y2 (by omega)
  | k+3=>rw [List.take_of_length_le (by simp)];exact Wh.bo y3 (by omega))
 rw [hT] at R6
 have N1:=fun W=>bV a W (by omega) (by omega)
 have N2:=fun W=>bV b W (by omega) (by omega)
 have N3:=fun W=>bV 4 W (by omega) (by omega)
 clear m1 m2 m3 p1 p2 p3 hp1 hp2 hp3 ms mm mp m0 hT Am LH LI;replace R1:=wM R1;replace R2:=wM R2;replace R3:=wM R3;replace R5:=wM R5;replace R6:=wM R6;replace N1:=wM N1;replace N2:=wM N2;replace N3:=wM N3;generalize hF:Wh.an a b x z=F at *;clear hF;generalize hs1:decide (x<0)=s1 at *;replace hs1:=wM hs1.symm;generalize hs2:decide (z<0)=s2 at *;replace hs2:=wM hs2.symm;replace hox:=wM (show aF _ _ _ _ from hox);replace xj:=wM (show aF _ _ _ _ from xj);generalize (Wh.a_ z.natAbs).length=lz,(Wh.a_ x.natAbs).length=lx at *;have b1:=((aH.new w #[.int .i64 a,.int .i64 b] 25).alloc (.cells #[.bool s1,.slice ax lx cx,.bool s2,.slice az lz cz] 127)).alloc (.cells #[.bool false,.slice none 0 0] 125);have b2:=(aH.new (w.alloc (.cells #[.int .i64 a,.int .i64 b] 25)) #[.bool s1,.slice ax lx cx,.bool s2,.slice az lz cz] 127).alloc (.cells #[.bool false,.slice none 0 0] 125);rw [wN] at b2;have b3:=aH.new ((w.alloc (.cells #[.int .i64 a,.int .i64 b] 25)).alloc (.cells #[.bool s1,.slice ax lx cx,.bool s2,.slice az lz cz] 127)) #[.bool false,.slice none 0 0] 125;rw [cW] at b3;have hB:=(((wP w.heap.size w).alloc (wQ _) (.cells #[.int .i64 a,.int .i64 b] 25)).alloc (by rw [wN];omega) (.cells #[.bool s1,.slice ax lx cx,.bool s2,.slice az lz cz] 127)).alloc (by rw [cW];omega) (.cells #[.bool false,.slice none 0 0] 125)
 have hz3:(((w.alloc (.cells #[.int .i64 a,.int .i64 b] 25)).alloc (.cells #[.bool s1,.slice ax lx cx,.bool s2,.slice az lz cz] 127)).alloc (.cells #[.bool false,.slice none 0 0] 125)).heap.size=w.heap.size+3:=by rw [wN,cW]
 have zV:=wM (aF.alloc (aF.alloc (aF.alloc hox.out (.cells #[.int .i64 a,.int .i64 b] 25)) (.cells #[.bool s1,.slice ax lx cx,.bool s2,.slice az lz cz] 127)) (.cells #[.bool false,.slice none 0 0] 125));have zW:=wM (aF.alloc (aF.alloc (aF.alloc xj.out (.cells #[.int .i64 a,.int .i64 b] 25)) (.cells #[.bool s1,.slice ax lx cx,.bool s2,.slice az lz cz] 127)) (.cells #[.bool false,.slice none 0 0] 125));clear hox xj;generalize hw3:((w.alloc (.cells #[.int .i64 a,.int .i64 b] 25)).alloc (.cells #[.bool s1,.slice ax lx cx,.bool s2,.slice az lz cz] 127)).alloc (.cells #[.bool false,.slice none 0 0] 125)=w3 at *;have e0:=b2.aP.c0;have e1:=b2.aP.c1;have e2:=b2.aP.c2;have e3:=b2.aP.c3;go_enter Tryz.func154,Tryz.ntmps154
 go_wp2
 go_upto_region 1 with fail
 go_cut [5,6] (fun p q wx=>∃ gx gz,w.heap.size+3≤gx∧w.heap.size+3≤gz∧p=.pointer (some ⟨gx,0,none⟩)∧q=.pointer (some ⟨gz,0,none⟩)∧aH wx gx 125 #[.bool s1,.slice ax lx cx]∧aH wx gz 125 #[.bool s2,.slice az lz cz]∧Below (w.heap.size+3) w3 wx)
 case first=>
  go_region
  all_goals
   go_wp2_with fail
   go_meet
   first
   | exact (mO _ _ hz3 _ _ _ _ _).1
   | exact (mO _ _ hz3 _ _ _ _ _).2
 case rest=>
 obtain ⟨gx,gz,hgx,hgz,rfl,rfl,X,Z,hbx⟩:=hcut;rw [←hz3] at hbx;have ox:=wM (aF.below zV.out hbx);have oz:=wM (aF.below zW.out hbx);have C:=b1.keep hbx;have R:=b3.keep hbx;have hw:=d_ hB hbx
 have Ba:w.heap.size+3≤wc.heap.size:=by have:=hbx.size;omega
 clear hz3;clear b1 b2 b3 e0 e1 e2 e3 hB hbx zV zW
 go_upto_region 2 with fail
 refine Rg.bO 24 [.is (.agg #[.bool s1,.slice ax lx cx]),.is (.agg #[.bool s1,.slice ax lx cx]),.is (.agg #[.bool s1,.slice ax lx cx]),.at (bg (wc.heap.size) [x,x,x]),.at (aJ (wc.heap.size) (Ac)),.is (.pointer (some ⟨w.heap.size,0,none⟩)),.is (.int .i64 a),.at (aJ (wc.heap.size) (a)),.is (.agg #[.bool s1,.slice ax lx cx]),.is (.agg #[.bool s2,.slice az lz cz]),.is (.agg #[.bool s2,.slice az lz cz]),.at (bg (wc.heap.size) [a,x,z,z]),.at (aJ (wc.heap.size) (Ad)),.is (.pointer (some ⟨w.heap.size,1,none⟩)),.is (.int .i64 b),.at (aJ (wc.heap.size) (b)),.is (.agg #[.bool s2,.slice az lz cz]),.is (.agg #[.bool s2,.slice az lz cz]),.is (.agg #[.bool s2,.slice az lz cz]),.at (bg (wc.heap.size) [b,z,z,z]),.at (aJ (wc.heap.size) (Ae)),.at (bg (wc.heap.size) [Ac,Ad,Ae]),.at (aJ (wc.heap.size) (FX)),.new (wc.heap.size) 125 #[.bool false,.slice none 0 0]] (by kernel_rfl) (by kernel_rfl) (by kernel_rfl) ⟨?_,?_,?_,?_,?_,?_,?_,?_,?_,?_,?_,?_,?_,?_,?_,?_,?_,?_,?_,?_,?_,?_,?_,?_,fun h_=>absurd h_ (by decide),trivial⟩ ?_
 ·intro _ zZ w_ hB hr
  have e5:zZ.tmps[5]?=some (.pointer (some ⟨gx,0,none⟩)):=hr 5 (by decide);have k0:=aE hB X.box.c0;have k1:=aE hB X.box.c1;exact Rg.aG rfl (by go_simp)
 ·intro _ zZ w_ hB hr
  have e5:zZ.tmps[5]?=some (.pointer (some ⟨gx,0,none⟩)):=hr 5 (by decide);have k0:=aE hB X.box.c0;have k1:=aE hB X.box.c1;exact Rg.aG rfl (by go_simp)
 ·intro _ zZ w_ hB hr
  have e5:zZ.tmps[5]?=some (.pointer (some ⟨gx,0,none⟩)):=hr 5 (by decide);have k0:=aE hB X.box.c0;have k1:=aE hB X.box.c1;exact Rg.aG rfl (by go_simp)
 ·intro _ zZ w_ hB hr
  have e12:=Rg.c_ (hr 12 (by decide));have e13:=Rg.c_ (hr 13 (by decide));have e14:=Rg.c_ (hr 14 (by decide));refine Rg.jR rfl (x:=.slice (some ⟨w_.heap.size,0,none⟩) 3 3) (ob:=.cells (List.toArray [.bool s1,.slice ax lx cx,.bool s1,.slice ax lx cx,.bool s1,.slice ax lx cx]) 125) (by first | (go_simp;done) | (go_simp;exact ⟨rfl,rfl⟩) | (go_simp;rfl)) (bg.at (by have:=hB.size;omega) ?_ rfl);exact bU.cons hs1.out (aF.below ox.out hB) (bU.cons hs1.out (aF.below ox.out hB) (bU.cons hs1.out (aF.below ox.out hB) (bU.nil)))
 ·intro _ zZ w_ hB hr
  obtain ⟨v15,e15,n15⟩:∃ v,zZ.tmps[15]?=some v∧(Rg.Val.at (bg (wc.heap.size) [x,x,x])).ok v w_:=hr 15 (by decide);obtain ⟨g15,rfl,EI⟩:=Rg.ag n15;have ef:=Rg.ef zZ;refine Rg.af rfl (by go_simp;exact ⟨rfl,rfl⟩) ?_;refine (R1.out _ _ _ EI).mono ?_;rintro e w5 ⟨xX,rfl,wl,hb5⟩;exact ⟨_,rfl,aJ.at wl (by have:=hB.size;omega),hb5⟩
 ·intro _ zZ w_ hB hr
  have e2:zZ.tmps[2]?=some (.pointer (some ⟨w.heap.size,0,none⟩)):=hr 2 (by decide);exact Rg.aG rfl (by go_simp)
 ·intro _ zZ w_ hB hr
  have e17:=Rg.c_ (hr 17 (by decide));have k0:=aE hB C.box.c0;exact Rg.aG rfl (by go_simp)
 ·intro _ zZ w_ hB hr
  have e18:=Rg.c_ (hr 18 (by decide));have ef:=Rg.ef zZ;refine Rg.af rfl (by go_simp;exact ⟨rfl,rfl⟩) ?_;refine (N1.out _).mono ?_;rintro e w5 ⟨xX,rfl,wl,hb5⟩;exact ⟨_,rfl,aJ.at wl (by have:=hB.size;omega),hb5⟩
 ·intro _ zZ w_ hB hr
  have e5:zZ.tmps[5]?=some (.pointer (some ⟨gx,0,none⟩)):=hr 5 (by decide);have k0:=aE hB X.box.c0;have k1:=aE hB X.box.c1;exact Rg.aG rfl (by go_simp)
 ·intro _ zZ w_ hB hr
  have e6:zZ.tmps[6]?=some (.pointer (some ⟨gz,0,none⟩)):=hr 6 (by decide);have k0:=aE hB Z.box.c0;have k1:=aE hB Z.box.c1;exact Rg.aG rfl (by go_simp)
 ·intro _ zZ w_ hB hr
  have e6:zZ.tmps[6]?=some (.pointer (some ⟨gz,0,none⟩)):=hr 6 (by decide);have k0:=aE hB Z.box.c0;have k1:=aE hB Z.box.c1;exact Rg.aG rfl (by go_simp)
 ·intro _ zZ w_ hB hr
  obtain ⟨v19,e19,n19⟩:∃ v,zZ.tmps[19]?=some v∧(Rg.Val.at (aJ (wc.heap.size) (a))).ok v w_:=hr 19 (by decide);obtain ⟨Bz,CT,Bb,c19,AA,rfl,Fz⟩:=(Rg.ag n19).view;have e20:=Rg.c_ (hr 20 (by decide));have e21:=Rg.c_ (hr 21 (by decide));have e22:=Rg.c_ (hr 22 (by decide));refine Rg.jR rfl (x:=.slice (some ⟨w_.heap.size,0,none⟩) 4 4) (ob:=.cells (List.toArray [.bool Bz,.slice CT Bb c19,.bool s1,.slice ax lx cx,.bool s2,.slice az lz cz,.bool s2,.slice az lz cz]) 125) (by first | (go_simp;done) | (go_simp;exact ⟨rfl,rfl⟩) | (go_simp;rfl)) (bg.at (by have:=hB.size;omega) ?_ rfl);exact bU.cons AA.out Fz (bU.cons hs1.out (aF.below ox.out hB) (bU.cons hs2.out (aF.below oz.out hB) (bU.cons hs2.out (aF.below oz.out hB) (bU.nil))))
 ·intro _ zZ w_ hB hr
  obtain ⟨v23,e23,n23⟩:∃ v,zZ.tmps[23]?=some v∧(Rg.Val.at (bg (wc.heap.size) [a,x,z,z])).ok v w_:=hr 23 (by decide);obtain ⟨g23,rfl,FT⟩:=Rg.ag n23;have ef:=Rg.ef zZ;refine Rg.af rfl (by go_simp;exact ⟨rfl,rfl⟩) ?_;refine (R2.out _ _ _ FT).mono ?_;rintro e w5 ⟨xX,rfl,wl,hb5⟩;exact ⟨_,rfl,aJ.at wl (by have:=hB.size;omega),hb5⟩
 ·intro _ zZ w_ hB hr
  have e2:zZ.tmps[2]?=some (.pointer (some ⟨w.heap.size,0,none⟩)):=hr 2 (by decide);exact Rg.aG rfl (by go_simp)
 ·intro _ zZ w_ hB hr
  have e25:=Rg.c_ (hr 25 (by decide));have k1:=aE hB C.box.c1;exact Rg.aG rfl (by go_simp)
 ·intro _ zZ w_ hB hr
  have e26:=Rg.c_ (hr 26 (by decide));have ef:=Rg.ef zZ;refine Rg.af rfl (by go_simp;exact ⟨rfl,rfl⟩) ?_;refine (N2.out _).mono ?_;rintro e w5 ⟨xX,rfl,wl,hb5⟩;exact ⟨_,rfl,aJ.at wl (by have:=hB.size;omega),hb5⟩
 ·intro _ zZ w_ hB hr
  have e6:zZ.tmps[6]?=some (.pointer (some ⟨gz,0,none⟩)):=hr 6 (by decide);have k0:=aE hB Z.box.c0;have k1:=aE hB Z.box.c1;exact Rg.aG rfl (by go_simp)
 ·intro _ zZ w_ hB hr
  have e6:zZ.tmps[6]?=some (.pointer (some ⟨gz,0,none⟩)):=hr 6 (by decide);have k0:=aE hB Z.box.c0;have k1:=aE hB Z.box.c1;exact Rg.aG rfl (by go_simp)
 ·intro _ zZ w_ hB hr
  have e6:zZ.tmps[6]?=some (.pointer (some ⟨gz,0,none⟩)):=hr 6 (by decide);have k0:=aE hB Z.box.c0;have k1:=aE hB Z.box.c1;exact Rg.aG rfl (by go_simp)
 ·intro _ zZ w_ hB hr
  obtain ⟨v27,e27,n27⟩:∃ v,zZ.tmps[27]?=some v∧(Rg.Val.at (aJ (wc.heap.size) (b))).ok v w_:=hr 27 (by decide);obtain ⟨Fb,a27,FR,Ei,FN,rfl,IK⟩:=(Rg.ag n27).view;have e28:=Rg.c_ (hr 28 (by decide));have e29:=Rg.c_ (hr 29 (by decide));have e30:=Rg.c_ (hr 30 (by decide));refine Rg.jR rfl (x:=.slice (some ⟨w_.heap.size,0,none⟩) 4 4) (ob:=.cells (List.toArray [.bool Fb,.slice a27 FR Ei,.bool s2,.slice az lz cz,.bool s2,.slice az lz cz,.bool s2,.slice az lz cz]) 125) (by first | (go_simp;done) | (go_simp;exact ⟨rfl,rfl⟩) | (go_simp;rfl)) (bg.at (by have:=hB.size;omega) ?_ rfl);exact bU.cons FN.out IK (bU.cons hs2.out (aF.below oz.out hB) (bU.cons hs2.out (aF.below oz.out hB) (bU.cons hs2.out (aF.below oz.out hB) (bU.nil))))
 ·intro _ zZ w_ hB hr
  obtain ⟨v31,e31,n31⟩:∃ v,zZ.tmps[31]?=some v∧(Rg.Val.at (bg (wc.heap.size) [b,z,z,z])).ok v w_:=hr 31 (by decide);obtain ⟨g31,rfl,L7⟩:=Rg.ag n31;have ef:=Rg.ef zZ;refine Rg.af rfl (by go_simp;exact ⟨rfl,rfl⟩) ?_;refine (R3.out _ _ _ L7).mono ?_;rintro e w5 ⟨xX,rfl,wl,hb5⟩;exact ⟨_,rfl,aJ.at wl (by have:=hB.size;omega),hb5⟩
 ·intro _ zZ w_ hB hr
  obtain ⟨v16,e16,n16⟩:∃ v,zZ.tmps[16]?=some v∧(Rg.Val.at (aJ (wc.heap.size) (Ac))).ok v w_:=hr 16 (by decide);obtain ⟨s16,a16,BF,c16,z8,rfl,o16⟩:=(Rg.ag n16).view;obtain ⟨v24,e24,n24⟩:∃ v,zZ.tmps[24]?=some v∧(Rg.Val.at (aJ (wc.heap.size) (Ad))).ok v w_:=hr 24 (by decide);obtain ⟨s24,a24,DL,c24,Bv,rfl,F0⟩:=(Rg.ag n24).view;obtain ⟨v32,e32,n32⟩:∃ v,zZ.tmps[32]?=some v∧(Rg.Val.at (aJ (wc.heap.size) (Ae))).ok v w_:=hr 32 (by decide);obtain ⟨s32,a32,l32,c32,FO,rfl,o32⟩:=(Rg.ag n32).view;refine Rg.jR rfl (x:=.slice (some ⟨w_.heap.size,0,none⟩) 3 3) (ob:=.cells (List.toArray [.bool s16,.slice a16 BF c16,.bool s24,.slice a24 DL c24,.bool s32,.slice a32 l32 c32]) 125) (by first | (go_simp;done) | (go_simp;exact ⟨rfl,rfl⟩) | (go_simp;rfl)) (bg.at (by have:=hB.size;omega) ?_ rfl);exact bU.cons z8.out o16 (bU.cons Bv.out F0 (bU.cons FO.out o32 (bU.nil)))
 ·intro _ zZ w_ hB hr
  obtain ⟨v33,e33,n33⟩:∃ v,zZ.tmps[33]?=some v∧(Rg.Val.at (bg (wc.heap.size) [Ac,Ad,Ae])).ok v w_:=hr 33 (by decide);obtain ⟨g33,rfl,FU⟩:=Rg.ag n33;have ef:=Rg.ef zZ;refine Rg.af rfl (by go_simp;exact ⟨rfl,rfl⟩) ?_;refine (R5.out _ _ _ FU).mono ?_;rintro e w5 ⟨xX,rfl,wl,hb5⟩;exact ⟨_,rfl,aJ.at wl (by have:=hB.size;omega),hb5⟩
 ·intro _ zZ w_ hB hr
  exact ⟨by have:=hB.size;omega,rfl,by first | (go_simp;done) | (go_simp;rfl)⟩
 intro vals wz hB hv hne;have n7:(Rg.Val.new (wc.heap.size) 125 #[.bool false,.slice none 0 0]).ok (vals 23) wz:=hv 23 (by decide);have n34:(Rg.Val.at (aJ (wc.heap.size) (FX))).ok (vals 22) wz:=hv 22 (by decide);simp only [Rg.bE,Rg.fill,Act.put,Nat.reduceAdd];clear hv;obtain ⟨g7,ED,Ha,o7⟩:=n7;replace o7:aH wz g7 125 #[.bool false,.slice none 0 0]:=o7;obtain ⟨F4,a34,Fy,c34,LR,DB,o34⟩:=(Rg.ag n34).view;simp only [Ha,DB];clear Ha DB;have hB2:Below wc.heap.size wc ((wz.setCell ⟨g7,0,none⟩ (.bool F4)).setCell ⟨g7,1,none⟩ (.slice a34 Fy c34)):=wO (wO hB ED _) ED _;have D:=aH.set2 o7 (.bool F4) (.slice a34 Fy c34);have oD:=wM (aF.bJ o34 o7 (by decide) (.bool F4) (.slice a34 Fy c34));have ⟨c0,c1,f0,f1,_⟩:=o7.box;unfold Rg.aZ Rg.aZ Oper.wp
 go_simp
 clear c0 c1 f0 f1 o7 o34;generalize ((wz.setCell ⟨g7,0,none⟩ (.bool F4)).setCell ⟨g7,1,none⟩ (.slice a34 Fy c34))=wd at *;replace Z:=Z.keep hB2;replace R:=R.keep hB2;replace oz:=wM (aF.below oz.out hB2);replace hw:=d_ hw hB2;have Bx:wc.heap.size≤wd.heap.size:=hB2.size
 go_upto_region 3 with fail
 clear hB2;refine Rg.bO 5 [.at (aJ (wd.heap.size) (4)),.is (.agg #[.bool s2,.slice az lz cz]),.is (.agg #[.bool F4,.slice a34 Fy c34]),.at (bg (wd.heap.size) [4,z,FX]),.at (aJ (wd.heap.size) (F))] (by kernel_rfl) (by kernel_rfl) (by kernel_rfl) ⟨?_,?_,?_,?_,?_,fun h_=>absurd h_ (by decide),trivial⟩ ?_
 ·intro _ zZ w_ hB hr
  have ec:=Rg.ec zZ;have ef:=Rg.ef zZ;refine Rg.af rfl (by go_simp;exact ⟨rfl,rfl⟩) ?_;refine (N3.out _).mono ?_;rintro e w5 ⟨xX,rfl,wl,hb5⟩;exact ⟨_,rfl,aJ.at wl (by have:=hB.size;omega),hb5⟩
 ·intro _ zZ w_ hB hr
  have e6:zZ.tmps[6]?=some (.pointer (some ⟨gz,0,none⟩)):=hr 6 (by decide);have k0:=aE hB Z.box.c0;have k1:=aE hB Z.box.c1;exact Rg.aG rfl (by go_simp)
 ·intro _ zZ w_ hB hr
  have e7:zZ.tmps[7]?=some (.pointer (some ⟨g7,0,none⟩)):=hr 7 (by decide);have k0:=aE hB D.box.c0;have k1:=aE hB D.box.c1;exact Rg.aG rfl (by go_simp)
 ·intro _ zZ w_ hB hr
  obtain ⟨v35,e35,n35⟩:∃ v,zZ.tmps[35]?=some v∧(Rg.Val.at (aJ (wd.heap.size) (4))).ok v w_:=hr 35 (by decide);obtain ⟨s35,a35,l35,c35,LS,rfl,L8⟩:=(Rg.ag n35).view;have e36:=Rg.c_ (hr 36 (by decide));have e37:=Rg.c_ (hr 37 (by decide));refine Rg.jR rfl (x:=.slice (some ⟨w_.heap.size,0,none⟩) 3 3) (ob:=.cells (List.toArray [.bool s35,.slice a35 l35 c35,.bool s2,.slice az lz cz,.bool F4,.slice a34 Fy c34]) 125) (by first | (go_simp;done) | (go_simp;exact ⟨rfl,rfl⟩) | (go_simp;rfl)) (bg.at (by have:=hB.size;omega) ?_ rfl);exact bU.cons LS.out L8 (bU.cons hs2.out (aF.below oz.out hB) (bU.cons LR.out (aF.below oD.out hB) (bU.nil)))
 ·intro _ zZ w_ hB hr
  obtain ⟨v38,e38,n38⟩:∃ v,zZ.tmps[38]?=some v∧(Rg.Val.at (bg (wd.heap.size) [4,z,FX])).ok v w_:=hr 38 (by decide);obtain ⟨g38,rfl,L9⟩:=Rg.ag n38;have ef:=Rg.ef zZ;refine Rg.af rfl (by go_simp;exact ⟨rfl,rfl⟩) ?_;refine (R6.out _ _ _ L9).mono ?_;rintro e w5 ⟨xX,rfl,wl,hb5⟩;exact ⟨_,rfl,aJ.at wl (by have:=hB.size;omega),hb5⟩
 intro vals wy hB4 hv hne;have n39:(Rg.Val.at (aJ (wd.heap.size) (F))).ok (vals 4) wy:=hv 4 (by decide);simp only [Rg.bE,Rg.fill,Act.put,Nat.reduceAdd];clear hv;obtain ⟨MK,a39,Lv,Kj,LW,Af,o39⟩:=(Rg.ag n39).view;simp only [Af];clear Af;have R2:=R.keep hB4;have ⟨c0,c1,f0,f1,_⟩:=R2.box;have hr1:=aF.base (aF.bJ o39 R2 (by decide) (.bool MK) (.slice a39 Lv Kj)) (show w.heap.size≤wd.heap.size from hw.size);have hr2:Below w.heap.size w ((wy.setCell ⟨w.heap.size+1+1,0,none⟩ (.bool MK)).setCell ⟨w.heap.size+1+1,1,none⟩ (.slice a39 Lv Kj)):=wO (wO (d_ hw hB4) (by simp <;> omega) _) (by simp <;> omega) _;unfold Rg.aZ Rg.aZ Oper.wp
 go_simp
 go_wp2;exact bodyPost_ret (v:=.agg #[.bool MK,.slice a39 Lv Kj]) (by simp [results,Tryz.results154,go_sem, *]) rfl (⟨_,by rw [LW.out],hr1,hr2⟩)
theorem jQ (a b x z:Int) (vx vz:Value) (w:World) (bx bz:Nat) (hox:ak w bx vx x) (xj:ak w bz vz z) (hx:Wh.sz x 1000) (hz:Wh.sz z 1000) (ha1:-1000≤a) (ha2:a≤1000) (hb1:-10000≤b) (hb2:b≤10000) :
  Calls Tryz.prog 157 #[.agg #[.int .i64 a,.int .i64 b],.agg #[.bool (decide (x<0)),vx,.bool (decide (z<0)),vz]] w fun e w'=>∃ sl,e=.returned (.agg #[.bool (decide (Wh.an a b x z<0)),sl])∧ak w' w.heap.size sl (Wh.an a b x z)∧Below w.heap.size w w':=by
 obtain ⟨ax,cx,rfl,-,-⟩:=aF.view hox;obtain ⟨az,cz,rfl,-,-⟩:=aF.view xj;have m1:=Wh.aw hx hx;have m0:=Wh.aw hz hz;have m2:=Wh.aw m1 hx;have m3:=Wh.aw hx m0;have m4:=Wh.aw m3 (Wh.bS (n:=a) (by omega) (by omega));have m5:=Wh.fQ (Wh.aN m2 (show 1000+1000+1000≤4000 by omega)) (Wh.aN m4 (show _≤4000 by omega));have m6:=Wh.aw hz m0;have m7:=Wh.aw m6 (Wh.bS (n:=b) (by omega) (by omega));have m8:=Wh.fQ (Wh.aN m5 (show 4000+1≤4100 by omega)) (Wh.aN m7 (show _≤4100 by omega));have m9:=Wh.aw hz m8
 have P0:=fun v W k (h:aF W k v (Wh.a_ (z).natAbs))=>dQ (z) v W k h (Wh.aY.2 (Wh.aN hz (by omega)))
 have P1:=fun v W k (h:aF W k v (Wh.a_ (x).natAbs))=>dQ (x) v W k h (Wh.aY.2 (Wh.aN hx (by omega)))
 have P2:=fun v v' W k k' (h:aF W k v (Wh.a_ (x*x).natAbs)) (h':aF W k' v' (Wh.a_ (x).natAbs))=>da (x*x) (x) v v' W k k' h h' (Wh.aY.2 (Wh.aN m1 (by omega))) (Wh.aY.2 (Wh.aN hx (by omega)))
 have P3:=fun v v' W k k' (h:aF W k v (Wh.a_ (x).natAbs)) (h':aF W k' v' (Wh.a_ (z*z).natAbs))=>da (x) (z*z) v v' W k k' h h' (Wh.aY.2 (Wh.aN hx (by omega))) (Wh.aY.2 (Wh.aN m0 (by omega)))
 have P4:=fun v W k (h:aF W k v (Wh.a_ (x*(z*z)).natAbs))=>df (x*(z*z)) (a) v W k h (Wh.aY.2 (Wh.aN m3 (by omega))) (by omega) (by omega)
 have P5:=fun v v' W k k' (h:aF W k v (Wh.a_ (x*x*x).natAbs)) (h':aF W k' v' (Wh.a_ (x*(z*z)*a).natAbs))=>iP (x*x*x) (x*(z*z)*a) v v' W k k' h h' (Wh.aY.2 (Wh.aN m2 (by omega))) (Wh.aY.2 (Wh.aN m4 (by omega)))
 have P6:=fun v v' W k k' (h:aF W k v (Wh.a_ (z).natAbs)) (h':aF W k' v' (Wh.a_ (z*z).natAbs))=>da (z) (z*z) v v' W k k' h h' (Wh.aY.2 (Wh.aN hz (by omega))) (Wh.aY.2 (Wh.aN m0 (by omega)))
 have P7:=fun v W k (h:aF W k v (Wh.a_ (z*(z*z)).natAbs))=>df (z*(z*z)) (b) v W k h (Wh.aY.2 (Wh.aN m6 (by omega))) (by omega) (by omega)
 have P8:=fun v v' W k k' (h:aF W k v (Wh.a_ (x*x*x+x*(z*z)*a).natAbs)) (h':aF W k' v' (Wh.a_ (z*(z*z)*b).natAbs))=>iP (x*x*x+x*(z*z)*a) (z*(z*z)*b) v v' W k k' h h' (Wh.aY.2 (Wh.aN m5 (by omega))) (Wh.aY.2 (Wh.aN m7 (by omega)))
 have P9:=fun v v' W k k' (h:aF W k v (Wh.a_ (z).natAbs)) (h':aF W k' v' (Wh.a_ (x*x*x+x*(z*z)*a+z*(z*z)*b).natAbs))=>da (z) (x*x*x+x*(z*z)*a+z*(z*z)*b) v v' W k k' h h' (Wh.aY.2 (Wh.aN hz (by omega))) (Wh.aY.2 (Wh.aN m8 (by omega)))
 have PA:=fun v W k (h:aF W k v (Wh.a_ (z*(x*x*x+x*(z*z)*a+z*(z*z)*b)).natAbs))=>df (z*(x*x*x+x*(z*z)*a+z*(z*z)*b)) (4) v W k h (Wh.aY.2 (Wh.aN m9 (by omega))) (by omega) (by omega)
 have hT:=Wh.lI a b x z;rw [hT] at PA;clear hT m1 m0 m2 m3 m4 m5 m6 m7 m8 m9;generalize Wh.an a b x z=F at *;generalize Er:x*x*x+x*(z*z)*a+z*(z*z)*b=S2 at *;generalize Ep:x*x*x+x*(z*z)*a=S1 at *;generalize Kx:z*(z*z)*b=zb at *;generalize Ky:z*(z*z)=zc at *;generalize Kp:x*(z*z)*a=xa at *;generalize Ks:x*(z*z)=xz at *;generalize Kq:x*x*x=xc at *;generalize Es:x*x=xq at *;generalize Et:z*z=zq at *;generalize hGg:z*S2=zs2 at *;clear Er Ep Kx Ky Kp Ks Kq Es Et hGg;replace P0:=wM P0;replace P1:=wM P1;replace P2:=wM P2;replace P3:=wM P3;replace P4:=wM P4;replace P5:=wM P5;replace P6:=wM P6;replace P7:=wM P7;replace P8:=wM P8;replace P9:=wM P9;replace PA:=wM PA;generalize hs1:decide (x<0)=s1 at *;replace hs1:=wM hs1.symm;generalize hs2:decide (z<0)=s2 at *;replace hs2:=wM hs2.symm;replace hox:=wM (show aF _ _ _ _ from hox);replace xj:=wM (show aF _ _ _ _ from xj);generalize (Wh.a_ z.natAbs).length=lz,(Wh.a_ x.natAbs).length=lx at *;have b1:=((aH.new w #[.int .i64 a,.int .i64 b] 25).alloc (.cells #[.bool s1,.slice ax lx cx,.bool s2,.slice az lz cz] 127)).alloc (.cells #[.bool false,.slice none 0 0] 125);have b2:=(aH.new (w.alloc (.cells #[.int .i64 a,.int .i64 b] 25)) #[.bool s1,.slice ax lx cx,.bool s2,.slice az lz cz] 127).alloc (.cells #[.bool false,.slice none 0 0] 125);rw [wN] at b2;have b3:=aH.new ((w.alloc (.cells #[.int .i64 a,.int .i64 b] 25)).alloc (.cells #[.bool s1,.slice ax lx cx,.bool s2,.slice az lz cz] 127)) #[.bool false,.slice none 0 0] 125;rw [cW] at b3;have hB:=(((wP w.heap.size w).alloc (wQ _) (.cells #[.int .i64 a,.int .i64 b] 25)).alloc (by rw [wN];omega) (.cells #[.bool s1,.slice ax lx cx,.bool s2,.slice az lz cz] 127)).alloc (by rw [cW];omega) (.cells #[.bool false,.slice none 0 0] 125)
 have hz3:(((w.alloc (.cells #[.int .i64 a,.int .i64 b] 25)).alloc (.cells #[.bool s1,.slice ax lx cx,.bool s2,.slice az lz cz] 127)).alloc (.cells #[.bool false,.slice none 0 0] 125)).heap.size=w.heap.size+3:=by rw [wN,cW]
 have zV:=wM (aF.alloc (aF.alloc (aF.alloc hox.out (.cells #[.int .i64 a,.int .i64 b] 25)) (.cells #[.bool s1,.slice ax lx cx,.bool s2,.slice az lz cz] 127)) (.cells #[.bool false,.slice none 0 0] 125));have zW:=wM (aF.alloc (aF.alloc (aF.alloc xj.out (.cells #[.int .i64 a,.int .i64 b] 25)) (.cells #[.bool s1,.slice ax lx cx,.bool s2,.slice az lz cz] 127)) (.cells #[.bool false,.slice none 0 0] 125));clear hox xj;generalize hw3:((w.alloc (.cells #[.int .i64 a,.int .i64 b] 25)).alloc (.cells #[.bool s1,.slice ax lx cx,.bool s2,.slice az lz cz] 127)).alloc (.cells #[.bool false,.slice none 0 0] 125)=w3 at *;have e0:=b2.aP.c0;have e1:=b2.aP.c1;have e2:=b2.aP.c2;have e3:=b2.aP.c3;go_enter Tryz.func157,Tryz.ntmps157
 go_wp2
 go_upto_region 1 with fail
 go_cut [5,6] (fun p q wx=>∃ gx gz,w.heap.size+3≤gx∧w.heap.size+3≤gz∧p=.pointer (some ⟨gx,0,none⟩)∧q=.pointer (some ⟨gz,0,none⟩)∧aH wx gx 125 #[.bool s1,.slice ax lx cx]∧aH wx gz 125 #[.bool s2,.slice az lz cz]∧Below (w.heap.size+3) w3 wx)
 case first=>
  go_region
  all_goals
   go_wp2_with fail
   go_meet
   first
   | exact (mO _ _ hz3 _ _ _ _ _).1
   | exact (mO _ _ hz3 _ _ _ _ _).2
 case rest=>
 obtain ⟨gx,gz,hgx,hgz,rfl,rfl,X,Z,hbx⟩:=hcut;rw [←hz3] at hbx;have ox:=wM (aF.below zV.out hbx);have oz:=wM (aF.below zW.out hbx);have C:=b1.keep hbx;have R:=b3.keep hbx;have hw:=d_ hB hbx
 have Ba:w.heap.size+3≤wc.heap.size:=by have:=hbx.size;omega
 clear hz3;clear b1 b2 b3 e0 e1 e2 e3 hB hbx zV zW;have z0:=Z.box.c0;have z1:=Z.box.c1
 go_wp2_with (go_at_call 183;(with_reducible refine (P0.out _ _ _ oz.out).mono ?_);rintro e w4 ⟨v3,rfl,ho3,hb4⟩;obtain ⟨a3,k3,rfl,hm3,hv3⟩:=aF.view ho3;clear hm3 hv3 z0 z1)
 have yn:wc.heap.size≤w4.heap.size:=hb4.size;generalize (Wh.a_ zq.natAbs).length=l3 at *;generalize hs3:decide (zq<0)=s3 at *;replace hs3:=wM hs3.symm;have o3:=wM (aF.alloc (show aF _ _ _ _ from ho3) (.cells #[.bool s3,.slice a3 l3 k3] 125));clear ho3;have T:=aH.new w4 #[.bool s3,.slice a3 l3 k3] 125;have hB2:Below wc.heap.size wc (w4.alloc (.cells #[.bool s3,.slice a3 l3 k3] 125)):=hb4.alloc yn (.cells #[.bool s3,.slice a3 l3 k3] 125);have ED:wc.heap.size≤w4.heap.size:=yn;have Gt:gz<wc.heap.size:=Z.lt
 go_upto_region 3 with fail
 generalize w4.alloc (.cells #[.bool s3,.slice a3 l3 k3] 125)=wd at *;replace X:=X.keep hB2;replace Z:=Z.keep hB2;replace C:=C.keep hB2;replace R:=R.keep hB2;replace ox:=wM (aF.below ox.out hB2);replace oz:=wM (aF.below oz.out hB2);replace hw:=d_ hw hB2;have Bx:wc.heap.size≤wd.heap.size:=hB2.size
 replace Gt:gz<wd.heap.size:=by omega
 replace Ba:w.heap.size+3≤wd.heap.size:=by omega
 clear hB2 hb4;refine Rg.bO 12 [.is (.agg #[.bool s1,.slice ax lx cx]),.at (aJ (wd.heap.size) (xq)),.is (.agg #[.bool s1,.slice ax lx cx]),.at (aJ (wd.heap.size) (xc)),.is (.agg #[.bool s1,.slice ax lx cx]),.is (.agg #[.bool s3,.slice a3 l3 k3]),.at (aJ (wd.heap.size) (xz)),.is (.pointer (some ⟨w.heap.size,0,none⟩)),.is (.int .i64 a),.at (aJ (wd.heap.size) (xa)),.at (aJ (wd.heap.size) (S1)),.new (wd.heap.size) 125 #[.bool false,.slice none 0 0]] (by kernel_rfl) (by kernel_rfl) (by kernel_rfl) ⟨?_,?_,?_,?_,?_,?_,?_,?_,?_,?_,?_,?_,fun h_=>absurd h_ (by decide),trivial⟩ ?_
 ·intro _ zZ w_ hB hr
  have e5:zZ.tmps[5]?=some (.pointer (some ⟨gx,0,none⟩)):=hr 5 (by decide);have k0:=aE hB X.box.c0;have k1:=aE hB X.box.c1;exact Rg.aG rfl (by go_simp)
 ·intro _ zZ w_ hB hr
  have e15:=Rg.c_ (hr 15 (by decide));have ef:=Rg.ef zZ;refine Rg.af rfl (by go_simp;exact ⟨rfl,rfl⟩) ?_;refine (P1.out _ _ _ (aF.below ox.out hB)).mono ?_;rintro e w5 ⟨xX,rfl,wl,hb5⟩;exact ⟨_,rfl,aJ.at wl (by have:=hB.size;omega),hb5⟩
 ·intro _ zZ w_ hB hr
  have e5:zZ.tmps[5]?=some (.pointer (some ⟨gx,0,none⟩)):=hr 5 (by decide);have k0:=aE hB X.box.c0;have k1:=aE hB X.box.c1;exact Rg.aG rfl (by go_simp)
 ·intro _ zZ w_ hB hr
  obtain ⟨v16,e16,n16⟩:∃ v,zZ.tmps[16]?=some v∧(Rg.Val.at (aJ (wd.heap.size) (xq))).ok v w_:=hr 16 (by decide);obtain ⟨s16,a16,BF,c16,z8,rfl,o16⟩:=(Rg.ag n16).view;have e17:=Rg.c_ (hr 17 (by decide));have ef:=Rg.ef zZ;refine Rg.af rfl (by go_simp;exact ⟨rfl,rfl⟩) ?_;obtain rfl:=z8.out;refine (P2.out _ _ _ _ _ o16 (aF.below ox.out hB)).mono ?_;rintro e w5 ⟨xX,rfl,wl,hb5⟩;exact ⟨_,rfl,aJ.at wl (by have:=hB.size;omega),hb5⟩
 ·intro _ zZ w_ hB hr
  have e5:zZ.tmps[5]?=some (.pointer (some ⟨gx,0,none⟩)):=hr 5 (by decide);have k0:=aE hB X.box.c0;have k1:=aE hB X.box.c1;exact Rg.aG rfl (by go_simp)
 ·intro _ zZ w_ hB hr
  have e7:zZ.tmps[7]?=some (.pointer (some ⟨w4.heap.size,0,none⟩)):=hr 7 (by decide);have k0:=aE hB T.box.c0;have k1:=aE hB T.box.c1;exact Rg.aG rfl (by go_simp)
 ·intro _ zZ w_ hB hr
  have e19:=Rg.c_ (hr 19 (by decide));have e20:=Rg.c_ (hr 20 (by decide));have ef:=Rg.ef zZ;refine Rg.af rfl (by go_simp;exact ⟨rfl,rfl⟩) ?_;refine (P3.out _ _ _ _ _ (aF.below ox.out hB) (aF.below o3.out hB)).mono ?_;rintro e w5 ⟨xX,rfl,wl,hb5⟩;exact ⟨_,rfl,aJ.at wl (by have:=hB.size;omega),hb5⟩
 ·intro _ zZ w_ hB hr
  have e2:zZ.tmps[2]?=some (.pointer (some ⟨w.heap.size,0,none⟩)):=hr 2 (by decide);exact Rg.aG rfl (by go_simp)
 ·intro _ zZ w_ hB hr
  have e22:=Rg.c_ (hr 22 (by decide));have k0:=aE hB C.box.c0;exact Rg.aG rfl (by go_simp)
 ·intro _ zZ w_ hB hr
  obtain ⟨v21,e21,n21⟩:∃ v,zZ.tmps[21]?=some v∧(Rg.Val.at (aJ (wd.heap.size) (xz))).ok v w_:=hr 21 (by decide);obtain ⟨s21,a21,l21,c21,LL,rfl,o21⟩:=(Rg.ag n21).view;have e23:=Rg.c_ (hr 23 (by decide));have ef:=Rg.ef zZ;refine Rg.af rfl (by go_simp;exact ⟨rfl,rfl⟩) ?_;obtain rfl:=LL.out;refine (P4.out _ _ _ o21).mono ?_;rintro e w5 ⟨xX,rfl,wl,hb5⟩;exact ⟨_,rfl,aJ.at wl (by have:=hB.size;omega),hb5⟩
 ·intro _ zZ w_ hB hr
  obtain ⟨v18,e18,n18⟩:∃ v,zZ.tmps[18]?=some v∧(Rg.Val.at (aJ (wd.heap.size) (xc))).ok v w_:=hr 18 (by decide);obtain ⟨s18,a18,l18,c18,FK,rfl,L5⟩:=(Rg.ag n18).view;obtain ⟨v24,e24,n24⟩:∃ v,zZ.tmps[24]?=some v∧(Rg.Val.at (aJ (wd.heap.size) (xa))).ok v w_:=hr 24 (by decide);obtain ⟨s24,a24,DL,c24,Bv,rfl,F0⟩:=(Rg.ag n24).view;have ef:=Rg.ef zZ;refine Rg.af rfl (by go_simp;exact ⟨rfl,rfl⟩) ?_;obtain rfl:=FK.out;obtain rfl:=Bv.out;refine (P5.out _ _ _ _ _ L5 F0).mono ?_;rintro e w5 ⟨xX,rfl,wl,hb5⟩;exact ⟨_,rfl,aJ.at wl (by have:=hB.size;omega),hb5⟩
 ·intro _ zZ w_ hB hr
  exact ⟨by have:=hB.size;omega,rfl,by first | (go_simp;done) | (go_simp;rfl)⟩
 intro vals wz hB hv hne;have n8:(Rg.Val.new (wd.heap.size) 125 #[.bool false,.slice none 0 0]).ok (vals 11) wz:=hv 11 (by decide);have n25:(Rg.Val.at (aJ (wd.heap.size) (S1))).ok (vals 10) wz:=hv 10 (by decide);simp only [Rg.bE,Rg.fill,Act.put,Nat.reduceAdd];clear hv;obtain ⟨g8,E7,xu,o8⟩:=n8;replace o8:aH wz g8 125 #[.bool false,.slice none 0 0]:=o8;obtain ⟨HI,a25,G4,Gg,LN,xV,IJ⟩:=(Rg.ag n25).view;simp only [xu,xV];clear xu xV;have hB2:Below wd.heap.size wd ((wz.setCell ⟨g8,0,none⟩ (.bool HI)).setCell ⟨g8,1,none⟩ (.slice a25 G4 Gg)):=wO (wO hB E7 _) E7 _;have U:=aH.set2 o8 (.bool HI) (.slice a25 G4 Gg);have oU:=wM (aF.bJ IJ o8 (by decide) (.bool HI) (.slice a25 G4 Gg));have ⟨c0,c1,f0,f1,_⟩:=o8.box;unfold Rg.aZ Rg.aZ Oper.wp
 go_simp
 clear c0 c1 f0 f1 o8 IJ;generalize ((wz.setCell ⟨g8,0,none⟩ (.bool HI)).setCell ⟨g8,1,none⟩ (.slice a25 G4 Gg))=we at *;replace Z:=Z.keep hB2;replace C:=C.keep hB2;replace R:=R.keep hB2;replace T:=T.keep hB2;replace oz:=wM (aF.below oz.out hB2);replace o3:=wM (aF.below o3.out hB2);replace hw:=d_ hw hB2;have Bx:wd.heap.size≤we.heap.size:=hB2.size
 go_upto_region 4 with fail
 clear hB2 hB;refine Rg.bO 8 [.is (.agg #[.bool HI,.slice a25 G4 Gg]),.is (.agg #[.bool s2,.slice az lz cz]),.is (.agg #[.bool s3,.slice a3 l3 k3]),.at (aJ (we.heap.size) (zc)),.is (.pointer (some ⟨w.heap.size,1,none⟩)),.is (.int .i64 b),.at (aJ (we.heap.size) (zb)),.at (aJ (we.heap.size) (S2))] (by kernel_rfl) (by kernel_rfl) (by kernel_rfl) ⟨?_,?_,?_,?_,?_,?_,?_,?_,fun h_=>absurd h_ (by decide),trivial⟩ ?_
 ·intro _ zZ w_ hB hr
  have e8:zZ.tmps[8]?=some (.pointer (some ⟨g8,0,none⟩)):=hr 8 (by decide);have k0:=aE hB U.box.c0;have k1:=aE hB U.box.c1;exact Rg.aG rfl (by go_simp)
 ·intro _ zZ w_ hB hr
  have e6:zZ.tmps[6]?=some (.pointer (some ⟨gz,0,none⟩)):=hr 6 (by decide);have k0:=aE hB Z.box.c0;have k1:=aE hB Z.box.c1;exact Rg.aG rfl (by go_simp)
 ·intro _ zZ w_ hB hr
  have e7:zZ.tmps[7]?=some (.pointer (some ⟨w4.heap.size,0,none⟩)):=hr 7 (by decide);have k0:=aE hB T.box.c0;have k1:=aE hB T.box.c1;exact Rg.aG rfl (by go_simp)
 ·intro _ zZ w_ hB hr
  have e27:=Rg.c_ (hr 27 (by decide));have e28:=Rg.c_ (hr 28 (by decide));have ef:=Rg.ef zZ;refine Rg.af rfl (by go_simp;exact ⟨rfl,rfl⟩) ?_;refine (P6.out _ _ _ _ _ (aF.below oz.out hB) (aF.below o3.out hB)).mono ?_;rintro e w5 ⟨xX,rfl,wl,hb5⟩;exact ⟨_,rfl,aJ.at wl (by have:=hB.size;omega),hb5⟩
 ·intro _ zZ w_ hB hr
  have e2:zZ.tmps[2]?=some (.pointer (some ⟨w.heap.size,0,none⟩)):=hr 2 (by decide);exact Rg.aG rfl (by go_simp)
 ·intro _ zZ w_ hB hr
  have e30:=Rg.c_ (hr 30 (by decide));have k1:=aE hB C.box.c1;exact Rg.aG rfl (by go_simp)
 ·intro _ zZ w_ hB hr
  obtain ⟨v29,e29,n29⟩:∃ v,zZ.tmps[29]?=some v∧(Rg.Val.at (aJ (we.heap.size) (zc))).ok v w_:=hr 29 (by decide);obtain ⟨s29,a29,l29,c29,LO,rfl,o29⟩:=(Rg.ag n29).view;have e31:=Rg.c_ (hr 31 (by decide));have ef:=Rg.ef zZ;refine Rg.af rfl (by go_simp;exact ⟨rfl,rfl⟩) ?_;obtain rfl:=LO.out;refine (P7.out _ _ _ o29).mono ?_;rintro e w5 ⟨xX,rfl,wl,hb5⟩;exact ⟨_,rfl,aJ.at wl (by have:=hB.size;omega),hb5⟩
 ·intro _ zZ w_ hB hr
  have e26:=Rg.c_ (hr 26 (by decide));obtain ⟨v32,e32,n32⟩:∃ v,zZ.tmps[32]?=some v∧(Rg.Val.at (aJ (we.heap.size) (zb))).ok v w_:=hr 32 (by decide);obtain ⟨s32,a32,l32,c32,FO,rfl,o32⟩:=(Rg.ag n32).view;have ef:=Rg.ef zZ;refine Rg.af rfl (by go_simp;exact ⟨rfl,rfl⟩) ?_;obtain rfl:=FO.out;rw [LN.out];refine (P8.out _ _ _ _ _ (aF.below oU.out hB) o32).mono ?_;rintro e w5 ⟨xX,rfl,wl,hb5⟩;exact ⟨_,rfl,aJ.at wl (by have:=hB.size;omega),hb5⟩
 intro vals wy hB hv hne;have n33:(Rg.Val.at (aJ (we.heap.size) (S2))).ok (vals 7) wy:=hv 7 (by decide);simp only [Rg.bE,Rg.fill,Act.put,Nat.reduceAdd];clear hv;obtain ⟨Dw,a33,Dt,Db,Ck,AB,FU⟩:=(Rg.ag n33).view;simp only [AB];clear AB;have U2:=U.keep hB;have hB2:Below wd.heap.size we ((wy.setCell ⟨g8,0,none⟩ (.bool Dw)).setCell ⟨g8,1,none⟩ (.slice a33 Dt Db)):=wO (wO (hB.mono Bx) E7 _) E7 _;have oS:=wM (aF.bJ FU U2 (by decide) (.bool Dw) (.slice a33 Dt Db));have U3:=aH.set2 U2 (.bool Dw) (.slice a33 Dt Db)
 have hgz9:gz<wd.heap.size∧w.heap.size+1+1<wd.heap.size:=⟨Gt,by have:=Ba;omega⟩
 have Z5:aH ((wy.setCell ⟨g8,0,none⟩ (.bool Dw)).setCell ⟨g8,1,none⟩ (.slice a33 Dt Db)) gz 125 #[.bool s2,.slice az lz cz]:=((Z.keep hB).other (by omega) _).other (by omega) _;have R5:aH ((wy.setCell ⟨g8,0,none⟩ (.bool Dw)).setCell ⟨g8,1,none⟩ (.slice a33 Dt Db)) (w.heap.size+1+1) 125 #[.bool false,.slice none 0 0]:=((R.keep hB).other (by omega) _).other (by omega) _;have oz5:=wM (aF.bJ (aF.below oz.out hB) U2 (by decide) (.bool Dw) (.slice a33 Dt Db));have Fx:=hw.trans (hB2.mono (show w.heap.size≤wd.heap.size by omega));have ⟨c0,c1,f0,f1,_⟩:=U2.box;unfold Rg.aZ Rg.aZ Oper.wp
 go_simp
 clear c0 c1 f0 f1 U2;generalize ((wy.setCell ⟨g8,0,none⟩ (.bool Dw)).setCell ⟨g8,1,none⟩ (.slice a33 Dt Db))=wf at *;have y0:=Z5.box.c0;have y1:=Z5.box.c1;have y2:=U3.box.c0;have y3:=U3.box.c1;obtain rfl:=Ck.out
 go_wp2_with (first | (go_at_call 185;(with_reducible refine (P9.out _ _ _ _ _ oz5.out oS.out).mono ?_);rintro e w6 ⟨v6,rfl,EF,hb6⟩;obtain ⟨a6,k6,rfl,LC,hv6⟩:=aF.view EF;clear LC hv6;have yL:=(show aF _ _ _ _ from EF)) | (go_at_call 186;(with_reducible refine (PA.out _ _ _ yL).mono ?_);rintro e w7 ⟨v7,rfl,zK,xC⟩;obtain ⟨a7,k7,rfl,hm7,hv7⟩:=aF.view zK;clear hm7 hv7;have R7:=(R5.keep hb6).keep xC;(have ⟨c0,c1,f0,f1,_⟩:=R7.box)))
 generalize decide (F<0)=s7,(Wh.a_ F.natAbs).length=l7 at *;have K4:=Fx.trans ((hb6.mono Fx.size).trans (xC.mono (Nat.le_trans Fx.size hb6.size)));have hr1:=aF.base (aF.bJ zK R7 (by decide) (.bool s7) (.slice a7 l7 k7)) (show w.heap.size≤w6.heap.size from Nat.le_trans Fx.size hb6.size);have hr2:Below w.heap.size w ((w7.setCell ⟨w.heap.size+1+1,0,none⟩ (.bool s7)).setCell ⟨w.heap.size+1+1,1,none⟩ (.slice a7 l7 k7)):=wO (wO K4 (by simp <;> omega) _) (by simp <;> omega) _;exact bodyPost_ret (v:=.agg #[.bool s7,.slice a7 l7 k7]) (by simp [results,Tryz.results157,go_sem, *]) rfl (⟨_,rfl,hr1,hr2⟩)
theorem tZ (a b x z:Int) (vx vz:Value) (w:World) (bx bz:Nat) (hox:ak w bx vx x) (xj:ak w bz vz z) (hx:Wh.sz x 1000) (hz:Wh.sz z 1000) (ha1:-1000≤a) (ha2:a≤1000) (hb1:-10000≤b) (hb2:b≤10000) :
  Calls Tryz.prog 187 #[.agg #[.int .i64 a,.int .i64 b],.agg #[.bool (decide (x<0)),vx,.bool (decide (z<0)),vz]] w fun e w'=>∃ sl,e=.returned (.agg #[.bool (decide (Wh.ay a b x z<0)),sl])∧ak w' w.heap.size sl (Wh.ay a b x z)∧Below w.heap.size w w':=by
 obtain ⟨ax,cx,rfl,-,-⟩:=aF.view hox;obtain ⟨az,cz,rfl,-,-⟩:=aF.view xj;have haa:-1000000≤a*a∧a*a≤1000000:=M.aK (x:=a) (y:=a) (m:=1000) (n:=1000) (by omega) (by omega) (by omega) (by omega);have mx:=Wh.aw hx hx;have mz:=Wh.aw hz hz;have Lz:=Wh.aw mx mx;have L0:=Wh.aw mx mz;have mt:=Wh.aw L0 (Wh.bS (n:=2*a) (by omega) (by omega));have m1:=Wh.kj (Wh.aN Lz (show 1000+1000+(1000+1000)≤4100 by omega)) (Wh.aN mt (show _≤4100 by omega));have n1:=Wh.aw hx hz;have n2:=Wh.aw n1 mz;have n3:=Wh.aw n2 (Wh.bS (n:=8*b) (by omega) (by omega));have m2:=Wh.kj (Wh.aN m1 (show 4100+1≤4200 by omega)) (Wh.aN n3 (show _≤4200 by omega));have L4:=Wh.aw mz mz;have n4:=Wh.aw L4 (Wh.bS (n:=a*a) (by omega) (by omega))
 have P0:=fun v W k (h:aF W k v (Wh.a_ (x).natAbs))=>dQ (x) v W k h (Wh.aY.2 (Wh.aN hx (by omega)))
 have P1:=fun v W k (h:aF W k v (Wh.a_ (z).natAbs))=>dQ (z) v W k h (Wh.aY.2 (Wh.aN hz (by omega)))
 have P2:=fun v W k (h:aF W k v (Wh.a_ (x*x).natAbs))=>dQ (x*x) v W k h (Wh.aY.2 (Wh.aN mx (by omega)))
 have P3:=fun v v' W k k' (h:aF W k v (Wh.a_ (x*x).natAbs)) (h':aF W k' v' (Wh.a_ (z*z).natAbs))=>da (x*x) (z*z) v v' W k k' h h' (Wh.aY.2 (Wh.aN mx (by omega))) (Wh.aY.2 (Wh.aN mz (by omega)))
 have P4:=fun v W k (h:aF W k v (Wh.a_ (x*x*(z*z)).natAbs))=>df (x*x*(z*z)) (2*a) v W k h (Wh.aY.2 (Wh.aN L0 (by omega))) (by omega) (by omega)
 have P5:=fun v v' W k k' (h:aF W k v (Wh.a_ (x*x*(x*x)).natAbs)) (h':aF W k' v' (Wh.a_ (x*x*(z*z)*(2*a)).natAbs))=>jw (x*x*(x*x)) (x*x*(z*z)*(2*a)) v v' W k k' h h' (Wh.aY.2 (Wh.aN Lz (by omega))) (Wh.aY.2 (Wh.aN mt (by omega)))
 have P6:=fun v v' W k k' (h:aF W k v (Wh.a_ (x).natAbs)) (h':aF W k' v' (Wh.a_ (z).natAbs))=>da (x) (z) v v' W k k' h h' (Wh.aY.2 (Wh.aN hx (by omega))) (Wh.aY.2 (Wh.aN hz (by omega)))
 have P7:=fun v v' W k k' (h:aF W k v (Wh.a_ (x*z).natAbs)) (h':aF W k' v' (Wh.a_ (z*z).natAbs))=>da (x*z) (z*z) v v' W k k' h h' (Wh.aY.2 (Wh.aN n1 (by omega))) (Wh.aY.2 (Wh.aN mz (by omega)))
 have P8:=fun v W k (h:aF W k v (Wh.a_ (x*z*(z*z)).natAbs))=>df (x*z*(z*z)) (8*b) v W k h (Wh.aY.2 (Wh.aN n2 (by omega))) (by omega) (by omega)
 have P9:=fun v v' W k k' (h:aF W k v (Wh.a_ (x*x*(x*x) - x*x*(z*z)*(2*a)).natAbs)) (h':aF W k' v' (Wh.a_ (x*z*(z*z)*(8*b)).natAbs))=>jw (x*x*(x*x) - x*x*(z*z)*(2*a)) (x*z*(z*z)*(8*b)) v v' W k k' h h' (Wh.aY.2 (Wh.aN m1 (by omega))) (Wh.aY.2 (Wh.aN n3 (by omega)))
 have PA:=fun v W k (h:aF W k v (Wh.a_ (z*z).natAbs))=>dQ (z*z) v W k h (Wh.aY.2 (Wh.aN mz (by omega)))
 have PB:=fun v W k (h:aF W k v (Wh.a_ (z*z*(z*z)).natAbs))=>df (z*z*(z*z)) (a*a) v W k h (Wh.aY.2 (Wh.aN L4 (by omega))) (by omega) (by omega)
 have PC:=fun v v' W k k' (h:aF W k v (Wh.a_ (x*x*(x*x) - x*x*(z*z)*(2*a) - x*z*(z*z)*(8*b)).natAbs)) (h':aF W k' v' (Wh.a_ (z*z*(z*z)*(a*a)).natAbs))=>iP (x*x*(x*x) - x*x*(z*z)*(2*a) - x*z*(z*z)*(8*b)) (z*z*(z*z)*(a*a)) v v' W k k' h h' (Wh.aY.2 (Wh.aN m2 (by omega))) (Wh.aY.2 (Wh.aN n4 (by omega)))
 have hT:=Wh.mL a b x z;rw [hT] at PC;clear hT mx mz Lz L0 mt m1 n1 n2 n3 m2 L4 n4;generalize Wh.ay a b x z=F at *;generalize Er:x*x*(x*x) - x*x*(z*z)*(2*a) - x*z*(z*z)*(8*b)=S2 at *;generalize Ep:x*x*(x*x) - x*x*(z*z)*(2*a)=S1 at *;generalize Kv:x*z*(z*z)*(8*b)=yb at *;generalize Kw:z*z*(z*z)*(a*a)=za at *;generalize Kr:x*x*(z*z)*(2*a)=xt at *;generalize Ku:x*z*(z*z)=y2 at *;generalize Gn:z*z*(z*z)=zzz at *;generalize Gm:x*x*(z*z)=xz2 at *;generalize Gl:x*x*(x*x)=xxx at *;generalize Kt:x*z=y1 at *;generalize Es:x*x=xq at *;generalize Et:z*z=zq at *;clear Er Ep Kv Kw Kr Ku Gn Gm Gl Kt Es Et;replace P0:=wM P0;replace P1:=wM P1;replace P2:=wM P2;replace P3:=wM P3;replace P4:=wM P4;replace P5:=wM P5;replace P6:=wM P6;replace P7:=wM P7;replace P8:=wM P8;replace P9:=wM P9;replace PA:=wM PA;replace PB:=wM PB;replace PC:=wM PC;generalize hs1:decide (x<0)=s1 at *;replace hs1:=wM hs1.symm;generalize hs2:decide (z<0)=s2 at *;replace hs2:=wM hs2.symm;replace hox:=wM (show aF _ _ _ _ from hox);replace xj:=wM (show aF _ _ _ _ from xj);generalize (Wh.a_ z.natAbs).length=lz,(Wh.a_ x.natAbs).length=lx at *;have b1:=((aH.new w #[.int .i64 a,.int .i64 b] 25).alloc (.cells #[.bool s1,.slice ax lx cx,.bool s2,.slice az lz cz] 127)).alloc (.cells #[.bool false,.slice none 0 0] 125);have b2:=(aH.new (w.alloc (.cells #[.int .i64 a,.int .i64 b] 25)) #[.bool s1,.slice ax lx cx,.bool s2,.slice az lz cz] 127).alloc (.cells #[.bool false,.slice none 0 0] 125);rw [wN] at b2;have b3:=aH.new ((w.alloc (.cells #[.int .i64 a,.int .i64 b] 25)).alloc (.cells #[.bool s1,.slice ax lx cx,.bool s2,.slice az lz cz] 127)) #[.bool false,.slice none 0 0] 125;rw [cW] at b3;have hB:=(((wP w.heap.size w).alloc (wQ _) (.cells #[.int .i64 a,.int .i64 b] 25)).alloc (by rw [wN];omega) (.cells #[.bool s1,.slice ax lx cx,.bool s2,.slice az lz cz] 127)).alloc (by rw [cW];omega) (.cells #[.bool false,.slice none 0 0] 125)
 have hz3:(((w.alloc (.cells #[.int .i64 a,.int .i64 b] 25)).alloc (.cells #[.bool s1,.slice ax lx cx,.bool s2,.slice az lz cz] 127)).alloc (.cells #[.bool false,.slice none 0 0] 125)).heap.size=w.heap.size+3:=by rw [wN,cW]
 have zV:=wM (aF.alloc (aF.alloc (aF.alloc hox.out (.cells #[.int .i64 a,.int .i64 b] 25)) (.cells #[.bool s1,.slice ax lx cx,.bool s2,.slice az lz cz] 127)) (.cells #[.bool false,.slice none 0 0] 125));have zW:=wM (aF.alloc (aF.alloc (aF.alloc xj.out (.cells #[.int .i64 a,.int .i64 b] 25)) (.cells #[.bool s1,.slice ax lx cx,.bool s2,.slice az lz cz] 127)) (.cells #[.bool false,.slice none 0 0] 125));clear hox xj;generalize hw3:((w.alloc (.cells #[.int .i64 a,.int .i64 b] 25)).alloc (.cells #[.bool s1,.slice ax lx cx,.bool s2,.slice az lz cz] 127)).alloc (.cells #[.bool false,.slice none 0 0] 125)=w3 at *;have e0:=b2.aP.c0;have e1:=b2.aP.c1;have e2:=b2.aP.c2;have e3:=b2.aP.c3;go_enter Tryz.func187,Tryz.ntmps187
 go_wp2
 go_upto_region 1 with fail
 go_cut [5,6] (fun p q wx=>∃ gx gz,w.heap.size+3≤gx∧w.heap.size+3≤gz∧p=.pointer (some ⟨gx,0,none⟩)∧q=.pointer (some ⟨gz,0,none⟩)∧aH wx gx 125 #[.bool s1,.slice ax lx cx]∧aH wx gz 125 #[.bool s2,.slice az lz cz]∧Below (w.heap.size+3) w3 wx)
 case first=>
  go_region
  all_goals
   go_wp2_with fail
   go_meet
   first
   | exact (mO _ _ hz3 _ _ _ _ _).1
   | exact (mO _ _ hz3 _ _ _ _ _).2
 case rest=>
 obtain ⟨gx,gz,hgx,hgz,rfl,rfl,X,Z,hbx⟩:=hcut;rw [←hz3] at hbx;have ox:=wM (aF.below zV.out hbx);have oz:=wM (aF.below zW.out hbx);have C:=b1.keep hbx;have R:=b3.keep hbx;have hw:=d_ hB hbx
 have Ba:w.heap.size+3≤wc.heap.size:=by have:=hbx.size;omega
 clear hz3;clear b1 b2 b3 e0 e1 e2 e3 hB hbx zV zW
 go_upto_region 2 with fail
 refine Rg.bO 6 [.is (.agg #[.bool s1,.slice ax lx cx]),.at (aJ (wc.heap.size) (xq)),.is (.agg #[.bool s2,.slice az lz cz]),.at (aJ (wc.heap.size) (zq)),.new (wc.heap.size) 125 #[.bool false,.slice none 0 0],.new (wc.heap.size) 125 #[.bool false,.slice none 0 0]] (by kernel_rfl) (by kernel_rfl) (by kernel_rfl) ⟨?_,?_,?_,?_,?_,?_,fun h_=>absurd h_ (by decide),fun h_=>absurd h_ (by decide),trivial⟩ ?_
 ·intro _ zZ w_ hB hr
  have e5:zZ.tmps[5]?=some (.pointer (some ⟨gx,0,none⟩)):=hr 5 (by decide);have k0:=aE hB X.box.c0;have k1:=aE hB X.box.c1;exact Rg.aG rfl (by go_simp)
 ·intro _ zZ w_ hB hr
  have e14:=Rg.c_ (hr 14 (by decide));have ef:=Rg.ef zZ;refine Rg.af rfl (by go_simp;exact ⟨rfl,rfl⟩) ?_;refine (P0.out _ _ _ (aF.below ox.out hB)).mono ?_;rintro e w5 ⟨xX,rfl,wl,hb5⟩;exact ⟨_,rfl,aJ.at wl (by have:=hB.size;omega),hb5⟩
 ·intro _ zZ w_ hB hr
  have e6:zZ.tmps[6]?=some (.pointer (some ⟨gz,0,none⟩)):=hr 6 (by decide);have k0:=aE hB Z.box.c0;have k1:=aE hB Z.box.c1;exact Rg.aG rfl (by go_simp)
 ·intro _ zZ w_ hB hr
  have e16:=Rg.c_ (hr 16 (by decide));have ef:=Rg.ef zZ;refine Rg.af rfl (by go_simp;exact ⟨rfl,rfl⟩) ?_;refine (P1.out _ _ _ (aF.below oz.out hB)).mono ?_;rintro e w5 ⟨xX,rfl,wl,hb5⟩;exact ⟨_,rfl,aJ.at wl (by have:=hB.size;omega),hb5⟩
 ·intro _ zZ w_ hB hr
  exact ⟨by have:=hB.size;omega,rfl,by first | (go_simp;done) | (go_simp;rfl)⟩
 ·intro _ zZ w_ hB hr
  exact ⟨by have:=hB.size;omega,rfl,by first | (go_simp;done) | (go_simp;rfl)⟩
 intro vals wz hB hv hne;have n7:(Rg.Val.new (wc.heap.size) 125 #[.bool false,.slice none 0 0]).ok (vals 4) wz:=hv 4 (by decide);have n8:(Rg.Val.new (wc.heap.size) 125 #[.bool false,.slice none 0 0]).ok (vals 5) wz:=hv 5 (by decide);have n15:(Rg.Val.at (aJ (wc.heap.size) (xq))).ok (vals 1) wz:=hv 1 (by decide);have n17:(Rg.Val.at (aJ (wc.heap.size) (zq))).ok (vals 3) wz:=hv 3 (by decide);simp only [Rg.bE,Rg.fill,Act.put,Nat.reduceAdd];clear hv;have FZ:=hne 4 5 (by decide) (by decide) (by decide) rfl rfl;obtain ⟨g7,ED,Af,o7⟩:=n7;replace o7:aH wz g7 125 #[.bool false,.slice none 0 0]:=o7;obtain ⟨g8,E7,BO,o8⟩:=n8;replace o8:aH wz g8 125 #[.bool false,.slice none 0 0]:=o8;obtain ⟨s15,CS,Co,c15,Dr,v_1,EI⟩:=(Rg.ag n15).view;obtain ⟨C9,a17,Cp,c17,Ch,EJ,II⟩:=(Rg.ag n17).view;rw [Af,BO] at FZ
 have Dg:g7≠g8:=fun e=>FZ (by rw [e])
 simp only [Af,BO,v_1,EJ];clear Af BO v_1 EJ;have En:=Dg.symm;have hB2:Below wc.heap.size wc ((((wz.setCell ⟨g7,0,none⟩ (.bool s15)).setCell ⟨g7,1,none⟩ (.slice CS Co c15)).setCell ⟨g8,0,none⟩ (.bool C9)).setCell ⟨g8,1,none⟩ (.slice a17 Cp c17)):=wO (wO (wO (wO hB ED _) ED _) E7 _) E7 _;have V8:aH ((wz.setCell ⟨g7,0,none⟩ (.bool s15)).setCell ⟨g7,1,none⟩ (.slice CS Co c15)) g8 125 #[.bool false,.slice none 0 0]:=(o8.other En _).other En _;have U8:=aH.set2 V8 (.bool C9) (.slice a17 Cp c17);have U7:aH ((((wz.setCell ⟨g7,0,none⟩ (.bool s15)).setCell ⟨g7,1,none⟩ (.slice CS Co c15)).setCell ⟨g8,0,none⟩ (.bool C9)).setCell ⟨g8,1,none⟩ (.slice a17 Cp c17)) g7 125 #[.bool s15,.slice CS Co c15]:=((aH.set2 o7 (.bool s15) (.slice CS Co c15)).other Dg _).other Dg _;have oq:=wM (aF.bJ (aF.bJ EI o7 (by decide) (.bool s15) (.slice CS Co c15)) V8 (by decide) (.bool C9) (.slice a17 Cp c17));have or:=wM (aF.bJ (aF.bJ II o7 (by decide) (.bool s15) (.slice CS Co c15)) V8 (by decide) (.bool C9) (.slice a17 Cp c17));have ⟨c0,c1,f0,f1,_⟩:=o7.box;have ⟨c2,c3,f2,f3,_⟩:=o8.box;unfold Rg.aZ Rg.aZ Rg.aZ Oper.wp
 go_simp
 clear c0 c1 f0 f1 c2 c3 f2 f3 o7 o8 EI II V8 Dg En FZ;generalize ((((wz.setCell ⟨g7,0,none⟩ (.bool s15)).setCell ⟨g7,1,none⟩ (.slice CS Co c15)).setCell ⟨g8,0,none⟩ (.bool C9)).setCell ⟨g8,1,none⟩ (.slice a17 Cp c17))=wd at *;replace X:=X.keep hB2;replace Z:=Z.keep hB2;replace C:=C.keep hB2;replace R:=R.keep hB2;replace ox:=wM (aF.below ox.out hB2);replace oz:=wM (aF.below oz.out hB2);have hgd:g8<wd.heap.size:=U8.lt;replace hw:=d_ hw hB2;have Bx:wc.heap.size≤wd.heap.size:=hB2.size;clear hB2 hB
 go_upto_region 3 with fail
 refine Rg.bO 11 [.is (.agg #[.bool s15,.slice CS Co c15]),.at (aJ (wd.heap.size) (xxx)),.is (.agg #[.bool s15,.slice CS Co c15]),.is (.agg #[.bool C9,.slice a17 Cp c17]),.at (aJ (wd.heap.size) (xz2)),.is (.pointer (some ⟨w.heap.size,0,none⟩)),.is (.int .i64 a),.is (.int .i64 (2*a)),.at (aJ (wd.heap.size) (xt)),.at (aJ (wd.heap.size) (S1)),.new (wd.heap.size) 125 #[.bool false,.slice none 0 0]] (by kernel_rfl) (by kernel_rfl) (by kernel_rfl) ⟨?_,?_,?_,?_,?_,?_,?_,?_,?_,?_,?_,fun h_=>absurd h_ (by decide),trivial⟩ ?_
 ·intro _ zZ w_ hB hr
  have e7:zZ.tmps[7]?=some (.pointer (some ⟨g7,0,none⟩)):=hr 7 (by decide);have k0:=aE hB U7.box.c0;have k1:=aE hB U7.box.c1;exact Rg.aG rfl (by go_simp)
 ·intro _ zZ w_ hB hr
  have e18:=Rg.c_ (hr 18 (by decide));have ef:=Rg.ef zZ;refine Rg.af rfl (by go_simp;exact ⟨rfl,rfl⟩) ?_;rw [Dr.out];refine (P2.out _ _ _ (aF.below oq.out hB)).mono ?_;rintro e w5 ⟨xX,rfl,wl,hb5⟩;exact ⟨_,rfl,aJ.at wl (by have:=hB.size;omega),hb5⟩
 ·intro _ zZ w_ hB hr
  have e7:zZ.tmps[7]?=some (.pointer (some ⟨g7,0,none⟩)):=hr 7 (by decide);have k0:=aE hB U7.box.c0;have k1:=aE hB U7.box.c1;exact Rg.aG rfl (by go_simp)
 ·intro _ zZ w_ hB hr
  have e8:zZ.tmps[8]?=some (.pointer (some ⟨g8,0,none⟩)):=hr 8 (by decide);have k0:=aE hB U8.box.c0;have k1:=aE hB U8.box.c1;exact Rg.aG rfl (by go_simp)
 ·intro _ zZ w_ hB hr
  have e20:=Rg.c_ (hr 20 (by decide));have e21:=Rg.c_ (hr 21 (by decide));have ef:=Rg.ef zZ;refine Rg.af rfl (by go_simp;exact ⟨rfl,rfl⟩) ?_;rw [Dr.out];rw [Ch.out];refine (P3.out _ _ _ _ _ (aF.below oq.out hB) (aF.below or.out hB)).mono ?_;rintro e w5 ⟨xX,rfl,wl,hb5⟩;exact ⟨_,rfl,aJ.at wl (by have:=hB.size;omega),hb5⟩
 ·intro _ zZ w_ hB hr
  have e2:zZ.tmps[2]?=some (.pointer (some ⟨w.heap.size,0,none⟩)):=hr 2 (by decide);exact Rg.aG rfl (by go_simp)
 ·intro _ zZ w_ hB hr
  have e23:=Rg.c_ (hr 23 (by decide));have k0:=aE hB C.box.c0;exact Rg.aG rfl (by go_simp)
 ·intro _ zZ w_ hB hr
  have e24:=Rg.c_ (hr 24 (by decide));have ec:=Rg.ec zZ;exact Rg.aG rfl (by go_simp <;> exact Rg.wo (by omega))
 ·intro _ zZ w_ hB hr
  obtain ⟨v22,e22,n22⟩:∃ v,zZ.tmps[22]?=some v∧(Rg.Val.at (aJ (wd.heap.size) (xz2))).ok v w_:=hr 22 (by decide);obtain ⟨s22,a22,l22,c22,LM,rfl,o22⟩:=(Rg.ag n22).view;have e25:=Rg.c_ (hr 25 (by decide));have ef:=Rg.ef zZ;refine Rg.af rfl (by go_simp;exact ⟨rfl,rfl⟩) ?_;obtain rfl:=LM.out;refine (P4.out _ _ _ o22).mono ?_;rintro e w5 ⟨xX,rfl,wl,hb5⟩;exact ⟨_,rfl,aJ.at wl (by have:=hB.size;omega),hb5⟩
 ·intro _ zZ w_ hB hr
  obtain ⟨v19,e19,n19⟩:∃ v,zZ.tmps[19]?=some v∧(Rg.Val.at (aJ (wd.heap.size) (xxx))).ok v w_:=hr 19 (by decide);obtain ⟨Bz,CT,Bb,c19,AA,rfl,Fz⟩:=(Rg.ag n19).view;obtain ⟨v26,e26,n26⟩:∃ v,zZ.tmps[26]?=some v∧(Rg.Val.at (aJ (wd.heap.size) (xt))).ok v w_:=hr 26 (by decide);obtain ⟨s26,a26,l26,c26,FM,rfl,L6⟩:=(Rg.ag n26).view;have ef:=Rg.ef zZ;refine Rg.af rfl (by go_simp;exact ⟨rfl,rfl⟩) ?_;obtain rfl:=AA.out;obtain rfl:=FM.out;refine (P5.out _ _ _ _ _ Fz L6).mono ?_;rintro e w5 ⟨xX,rfl,wl,hb5⟩;exact ⟨_,rfl,aJ.at wl (by have:=hB.size;omega),hb5⟩
 ·intro _ zZ w_ hB hr
  exact ⟨by have:=hB.size;omega,rfl,by first | (go_simp;done) | (go_simp;rfl)⟩
 intro vals wz hB hv hne;have n9:(Rg.Val.new (wd.heap.size) 125 #[.bool false,.slice none 0 0]).ok (vals 10) wz:=hv 10 (by decide);have n27:(Rg.Val.at (aJ (wd.heap.size) (S1))).ok (vals 9) wz:=hv 9 (by decide);simp only [Rg.bE,Rg.fill,Act.put,Nat.reduceAdd];clear hv;obtain ⟨g9,Fv,xV,o9⟩:=n9;replace o9:aH wz g9 125 #[.bool false,.slice none 0 0]:=o9;obtain ⟨Fb,a27,FR,Ei,FN,zB,IK⟩:=(Rg.ag n27).view;simp only [xV,zB];clear xV zB;have hB2:Below wd.heap.size wd ((wz.setCell ⟨g9,0,none⟩ (.bool Fb)).setCell ⟨g9,1,none⟩ (.slice a27 FR Ei)):=wO (wO hB Fv _) Fv _;have U:=aH.set2 o9 (.bool Fb) (.slice a27 FR Ei);have oU:=wM (aF.bJ IK o9 (by decide) (.bool Fb) (.slice a27 FR Ei));have ⟨c0,c1,f0,f1,_⟩:=o9.box;unfold Rg.aZ Rg.aZ Oper.wp
 go_simp
 clear c0 c1 f0 f1 o9 IK;generalize ((wz.setCell ⟨g9,0,none⟩ (.bool Fb)).setCell ⟨g9,1,none⟩ (.slice a27 FR Ei))=we at *;replace X:=X.keep hB2;replace Z:=Z.keep hB2;replace C:=C.keep hB2;replace R:=R.keep hB2;replace U8:=U8.keep hB2;replace ox:=wM (aF.below ox.out hB2);replace oz:=wM (aF.below oz.out hB2);replace or:=wM (aF.below or.out hB2);replace hw:=d_ hw hB2;have Bx:wd.heap.size≤we.heap.size:=hB2.size
 go_upto_region 4 with fail
 clear hB2 hB;refine Rg.bO 11 [.is (.agg #[.bool Fb,.slice a27 FR Ei]),.is (.agg #[.bool s1,.slice ax lx cx]),.is (.agg #[.bool s2,.slice az lz cz]),.at (aJ (we.heap.size) (y1)),.is (.agg #[.bool C9,.slice a17 Cp c17]),.at (aJ (we.heap.size) (y2)),.is (.pointer (some ⟨w.heap.size,1,none⟩)),.is (.int .i64 b),.is (.int .i64 (8*b)),.at (aJ (we.heap.size) (yb)),.at (aJ (we.heap.size) (S2))] (by kernel_rfl) (by kernel_rfl) (by kernel_rfl) ⟨?_,?_,?_,?_,?_,?_,?_,?_,?_,?_,?_,fun h_=>absurd h_ (by decide),trivial⟩ ?_
 ·intro _ zZ w_ hB hr
  have e9:zZ.tmps[9]?=some (.pointer (some ⟨g9,0,none⟩)):=hr 9 (by decide);have k0:=aE hB U.box.c0;have k1:=aE hB U.box.c1;exact Rg.aG rfl (by go_simp)
 ·intro _ zZ w_ hB hr
  have e5:zZ.tmps[5]?=some (.pointer (some ⟨gx,0,none⟩)):=hr 5 (by decide);have k0:=aE hB X.box.c0;have k1:=aE hB X.box.c1;exact Rg.aG rfl (by go_simp)
 ·intro _ zZ w_ hB hr
  have e6:zZ.tmps[6]?=some (.pointer (some ⟨gz,0,none⟩)):=hr 6 (by decide);have k0:=aE hB Z.box.c0;have k1:=aE hB Z.box.c1;exact Rg.aG rfl (by go_simp)
 ·intro _ zZ w_ hB hr
  have e29:=Rg.c_ (hr 29 (by decide));have e30:=Rg.c_ (hr 30 (by decide));have ef:=Rg.ef zZ;refine Rg.af rfl (by go_simp;exact ⟨rfl,rfl⟩) ?_;refine (P6.out _ _ _ _ _ (aF.below ox.out hB) (aF.below oz.out hB)).mono ?_;rintro e w5 ⟨xX,rfl,wl,hb5⟩;exact ⟨_,rfl,aJ.at wl (by have:=hB.size;omega),hb5⟩
 ·intro _ zZ w_ hB hr
  have e8:zZ.tmps[8]?=some (.pointer (some ⟨g8,0,none⟩)):=hr 8 (by decide);have k0:=aE hB U8.box.c0;have k1:=aE hB U8.box.c1;exact Rg.aG rfl (by go_simp)
 ·intro _ zZ w_ hB hr
  obtain ⟨v31,e31,n31⟩:∃ v,zZ.tmps[31]?=some v∧(Rg.Val.at (aJ (we.heap.size) (y1))).ok v w_:=hr 31 (by decide);obtain ⟨s31,a31,l31,c31,LQ,rfl,L7⟩:=(Rg.ag n31).view;have e32:=Rg.c_ (hr 32 (by decide));have ef:=Rg.ef zZ;refine Rg.af rfl (by go_simp;exact ⟨rfl,rfl⟩) ?_;obtain rfl:=LQ.out;rw [Ch.out];refine (P7.out _ _ _ _ _ L7 (aF.below or.out hB)).mono ?_;rintro e w5 ⟨xX,rfl,wl,hb5⟩;exact ⟨_,rfl,aJ.at wl (by have:=hB.size;omega),hb5⟩
 ·intro _ zZ w_ hB hr
  have e2:zZ.tmps[2]?=some (.pointer (some ⟨w.heap.size,0,none⟩)):=hr 2 (by decide);exact Rg.aG rfl (by go_simp)
 ·intro _ zZ w_ hB hr
  have e34:=Rg.c_ (hr 34 (by decide));have k1:=aE hB C.box.c1;exact Rg.aG rfl (by go_simp)
 ·intro _ zZ w_ hB hr
  have e35:=Rg.c_ (hr 35 (by decide));have ec:=Rg.ec zZ;exact Rg.aG rfl (by go_simp <;> exact Rg.wo (by omega))
 ·intro _ zZ w_ hB hr
  obtain ⟨v33,e33,n33⟩:∃ v,zZ.tmps[33]?=some v∧(Rg.Val.at (aJ (we.heap.size) (y2))).ok v w_:=hr 33 (by decide);obtain ⟨Dw,a33,Dt,Db,Ck,rfl,FU⟩:=(Rg.ag n33).view;have e36:=Rg.c_ (hr 36 (by decide));have ef:=Rg.ef zZ;refine Rg.af rfl (by go_simp;exact ⟨rfl,rfl⟩) ?_;obtain rfl:=Ck.out;refine (P8.out _ _ _ FU).mono ?_;rintro e w5 ⟨xX,rfl,wl,hb5⟩;exact ⟨_,rfl,aJ.at wl (by have:=hB.size;omega),hb5⟩
 ·intro _ zZ w_ hB hr
  have e28:=Rg.c_ (hr 28 (by decide));obtain ⟨v37,e37,n37⟩:∃ v,zZ.tmps[37]?=some v∧(Rg.Val.at (aJ (we.heap.size) (yb))).ok v w_:=hr 37 (by decide);obtain ⟨s37,a37,l37,c37,LU,rfl,o37⟩:=(Rg.ag n37).view;have ef:=Rg.ef zZ;refine Rg.af rfl (by go_simp;exact ⟨rfl,rfl⟩) ?_;obtain rfl:=LU.out;rw [FN.out];refine (P9.out _ _ _ _ _ (aF.below oU.out hB) o37).mono ?_;rintro e w5 ⟨xX,rfl,wl,hb5⟩;exact ⟨_,rfl,aJ.at wl (by have:=hB.size;omega),hb5⟩
 intro vals wy hB hv hne;have n38:(Rg.Val.at (aJ (we.heap.size) (S2))).ok (vals 10) wy:=hv 10 (by decide);simp only [Rg.bE,Rg.fill,Act.put,Nat.reduceAdd];clear hv;obtain ⟨Dx,a38,Du,Dc,LV,xV,L9⟩:=(Rg.ag n38).view;simp only [xV];clear xV;have U2:=U.keep hB;have hB2:Below wd.heap.size we ((wy.setCell ⟨g9,0,none⟩ (.bool Dx)).setCell ⟨g9,1,none⟩ (.slice a38 Du Dc)):=wO (wO (hB.mono Bx) Fv _) Fv _;have oS:=wM (aF.bJ L9 U2 (by decide) (.bool Dx) (.slice a38 Du Dc));have U3:=aH.set2 U2 (.bool Dx) (.slice a38 Du Dc)
 have hq8:g8<wd.heap.size∧w.heap.size+1+1<wd.heap.size:=⟨hgd,by omega⟩
 have hC9:w.heap.size<wd.heap.size:=by omega
 have C5:aH ((wy.setCell ⟨g9,0,none⟩ (.bool Dx)).setCell ⟨g9,1,none⟩ (.slice a38 Du Dc)) w.heap.size 25 #[.int .i64 a,.int .i64 b]:=((C.keep hB).other (by omega) _).other (by omega) _;have R5:aH ((wy.setCell ⟨g9,0,none⟩ (.bool Dx)).setCell ⟨g9,1,none⟩ (.slice a38 Du Dc)) (w.heap.size+1+1) 125 #[.bool false,.slice none 0 0]:=((R.keep hB).other (by omega) _).other (by omega) _;have Q5:aH ((wy.setCell ⟨g9,0,none⟩ (.bool Dx)).setCell ⟨g9,1,none⟩ (.slice a38 Du Dc)) g8 125 #[.bool C9,.slice a17 Cp c17]:=((U8.keep hB).other (by omega) _).other (by omega) _;have oq5:=wM (aF.bJ (aF.below or.out hB) U2 (by decide) (.bool Dx) (.slice a38 Du Dc));have Fx:=hw.trans (hB2.mono (show w.heap.size≤wd.heap.size by omega));have ⟨c0,c1,f0,f1,_⟩:=U2.box;unfold Rg.aZ Rg.aZ Oper.wp
 go_simp
 clear c0 c1 f0 f1 U2 hB2 hB;generalize ((wy.setCell ⟨g9,0,none⟩ (.bool Dx)).setCell ⟨g9,1,none⟩ (.slice a38 Du Dc))=wf at *
 go_upto_region 5 with fail
 refine Rg.bO 10 [.is (.agg #[.bool Dx,.slice a38 Du Dc]),.is (.agg #[.bool C9,.slice a17 Cp c17]),.at (aJ (wf.heap.size) (zzz)),.is (.pointer (some ⟨w.heap.size,0,none⟩)),.is (.int .i64 a),.is (.pointer (some ⟨w.heap.size,0,none⟩)),.is (.int .i64 a),.is (.int .i64 (a*a)),.at (aJ (wf.heap.size) (za)),.at (aJ (wf.heap.size) (F))] (by kernel_rfl) (by kernel_rfl) (by kernel_rfl) ⟨?_,?_,?_,?_,?_,?_,?_,?_,?_,?_,fun h_=>absurd h_ (by decide),trivial⟩ ?_
 ·intro _ zZ w_ hB hr
  have e9:zZ.tmps[9]?=some (.pointer (some ⟨g9,0,none⟩)):=hr 9 (by decide);have k0:=aE hB U3.box.c0;have k1:=aE hB U3.box.c1;exact Rg.aG rfl (by go_simp)
 ·intro _ zZ w_ hB hr
  have e8:zZ.tmps[8]?=some (.pointer (some ⟨g8,0,none⟩)):=hr 8 (by decide);have k0:=aE hB Q5.box.c0;have k1:=aE hB Q5.box.c1;exact Rg.aG rfl (by go_simp)
 ·intro _ zZ w_ hB hr
  have e40:=Rg.c_ (hr 40 (by decide));have ef:=Rg.ef zZ;refine Rg.af rfl (by go_simp;exact ⟨rfl,rfl⟩) ?_;rw [Ch.out];refine (PA.out _ _ _ (aF.below oq5.out hB)).mono ?_;rintro e w5 ⟨xX,rfl,wl,hb5⟩;exact ⟨_,rfl,aJ.at wl (by have:=hB.size;omega),hb5⟩
 ·intro _ zZ w_ hB hr
  have e2:zZ.tmps[2]?=some (.pointer (some ⟨w.heap.size,0,none⟩)):=hr 2 (by decide);exact Rg.aG rfl (by go_simp)
 ·intro _ zZ w_ hB hr
  have e42:=Rg.c_ (hr 42 (by decide));have k0:=aE hB C5.box.c0;exact Rg.aG rfl (by go_simp)
 ·intro _ zZ w_ hB hr
  have e2:zZ.tmps[2]?=some (.pointer (some ⟨w.heap.size,0,none⟩)):=hr 2 (by decide);exact Rg.aG rfl (by go_simp)
 ·intro _ zZ w_ hB hr
  have e44:=Rg.c_ (hr 44 (by decide));have k0:=aE hB C5.box.c0;exact Rg.aG rfl (by go_simp)
 ·intro _ zZ w_ hB hr
  have e43:=Rg.c_ (hr 43 (by decide));have e45:=Rg.c_ (hr 45 (by decide));exact Rg.aG rfl (by go_simp <;> exact Rg.wo (by omega))
 ·intro _ zZ w_ hB hr
  obtain ⟨v41,e41,n41⟩:∃ v,zZ.tmps[41]?=some v∧(Rg.Val.at (aJ (wf.heap.size) (zzz))).ok v w_:=hr 41 (by decide);obtain ⟨y9,a41,yx,yw,Bw,rfl,FV⟩:=(Rg.ag n41).view;have e46:=Rg.c_ (hr 46 (by decide));have ef:=Rg.ef zZ;refine Rg.af rfl (by go_simp;exact ⟨rfl,rfl⟩) ?_;obtain rfl:=Bw.out;refine (PB.out _ _ _ FV).mono ?_;rintro e w5 ⟨xX,rfl,wl,hb5⟩;exact ⟨_,rfl,aJ.at wl (by have:=hB.size;omega),hb5⟩
 ·intro _ zZ w_ hB hr
  have e39:=Rg.c_ (hr 39 (by decide));obtain ⟨v47,e47,n47⟩:∃ v,zZ.tmps[47]?=some v∧(Rg.Val.at (aJ (wf.heap.size) (za))).ok v w_:=hr 47 (by decide);obtain ⟨s47,a47,l47,c47,LY,rfl,L_⟩:=(Rg.ag n47).view;have ef:=Rg.ef zZ;refine Rg.af rfl (by go_simp;exact ⟨rfl,rfl⟩) ?_;obtain rfl:=LY.out;rw [LV.out];refine (PC.out _ _ _ _ _ (aF.below oS.out hB) L_).mono ?_;rintro e w5 ⟨xX,rfl,wl,hb5⟩;exact ⟨_,rfl,aJ.at wl (by have:=hB.size;omega),hb5⟩
 intro vals wv Gj hv hne;have n48:(Rg.Val.at (aJ (wf.heap.size) (F))).ok (vals 9) wv:=hv 9 (by decide);simp only [Rg.bE,Rg.fill,Act.put,Nat.reduceAdd];clear hv;obtain ⟨HJ,a48,G5,Gh,FP,zB,ME⟩:=(Rg.ag n48).view;simp only [zB];clear zB;replace R:=R5;replace hw:=Fx;have R2:=R.keep Gj;have ⟨c0,c1,f0,f1,_⟩:=R2.box;have hr1:=aF.base (aF.bJ ME R2 (by decide) (.bool HJ) (.slice a48 G5 Gh)) (show w.heap.size≤wf.heap.size from hw.size);have hr2:Below w.heap.size w ((wv.setCell ⟨w.heap.size+1+1,0,none⟩ (.bool HJ)).setCell ⟨w.heap.size+1+1,1,none⟩ (.slice a48 G5 Gh)):=wO (wO (d_ hw Gj) (by simp <;> omega) _) (by simp <;> omega) _;unfold Rg.aZ Rg.aZ Oper.wp
 go_simp
 go_wp2;exact bodyPost_ret (v:=.agg #[.bool HJ,.slice a48 G5 Gh]) (by simp [results,Tryz.results187,go_sem, *]) rfl (⟨_,by rw [FP.out],hr1,hr2⟩)
end
end Go.Proofs.YtggekfbfechonaaGreat
