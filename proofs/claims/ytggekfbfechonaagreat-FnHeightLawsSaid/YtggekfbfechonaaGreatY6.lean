/-
  Joined texts: contracts and plain lemmas.
-/
import Derived.Test.YtggekfbfechonaaGreatY1
import Derived.Test.YtggekfbfechonaaGreatY5
set_option linter.unusedSimpArgs false
set_option linter.unusedVariables false
set_option maxRecDepth 100000
set_option maxHeartbeats 8000000
namespace Go.Proofs.YtggekfbfechonaaGreat
section
open Go.RowKit
theorem nK (w3:World) (n:Nat) (hn:w3.heap.size=n) (u v x y:Value) (T:TypeId) :
  (∃ gx gz,n≤gx∧n≤gz∧Value.pointer (some ⟨n,0,none⟩)=.pointer (some ⟨gx,0,none⟩)∧Value.pointer (some ⟨n+1,0,none⟩)=.pointer (some ⟨gz,0,none⟩)∧aH ((w3.alloc (.cells #[u,v] T)).alloc (.cells #[x,y] T)).drew gx T #[u,v]∧aH ((w3.alloc (.cells #[u,v] T)).alloc (.cells #[x,y] T)).drew gz T #[x,y]∧Below n w3 ((w3.alloc (.cells #[u,v] T)).alloc (.cells #[x,y] T)).drew)∧
  (∃ gx gz,n≤gx∧n≤gz∧Value.pointer (some ⟨n+1,0,none⟩)=.pointer (some ⟨gx,0,none⟩)∧Value.pointer (some ⟨n,0,none⟩)=.pointer (some ⟨gz,0,none⟩)∧aH ((w3.alloc (.cells #[u,v] T)).alloc (.cells #[x,y] T)).drew gx T #[x,y]∧aH ((w3.alloc (.cells #[u,v] T)).alloc (.cells #[x,y] T)).drew gz T #[u,v]∧Below n w3 ((w3.alloc (.cells #[u,v] T)).alloc (.cells #[x,y] T)).drew):=by
 subst hn;have h1:aH ((w3.alloc (.cells #[u,v] T)).alloc (.cells #[x,y] T)).drew w3.heap.size T #[u,v]:=(aH.new w3 #[u,v] T).alloc _
 have h2:aH ((w3.alloc (.cells #[u,v] T)).alloc (.cells #[x,y] T)).drew (w3.heap.size+1) T #[x,y]:=by
  have:=aH.new (w3.alloc (.cells #[u,v] T)) #[x,y] T;rw [wI] at this;exact this
 have hb:Below w3.heap.size w3 ((w3.alloc (.cells #[u,v] T)).alloc (.cells #[x,y] T)).drew:=(((wK _ _).alloc (wL _) _).alloc (by rw [wI];omega) _).drew;exact ⟨⟨_,_,wL _,Nat.le_succ _,rfl,rfl,h1,h2,hb⟩,⟨_,_,Nat.le_succ _,wL _,rfl,rfl,h2,h1,hb⟩⟩
theorem gI (a b x z:Int) (vx vz:Value) (w:World) (bx bz:Nat) (hox:ak w bx vx x) (xZ:ak w bz vz z) (hx:Wh.sz x 1000) (hz:Wh.sz z 1000) (ha1:-1000≤a) (ha2:a≤1000) (hb1:-10000≤b) (hb2:b≤10000) :
  Calls Tryz.prog 180 #[.agg #[.int .i64 a,.int .i64 b],.agg #[.bool (decide (x<0)),vx,.bool (decide (z<0)),vz]] w fun e w'=>∃ sl,e=.returned (.agg #[.bool (decide (Wh.aw a b x z<0)),sl])∧ak w' w.heap.size sl (Wh.aw a b x z)∧Below w.heap.size w w':=by
 obtain ⟨ax,cx,rfl,-,-⟩:=aF.view hox;obtain ⟨az,cz,rfl,-,-⟩:=aF.view xZ;have hq1:Wh.sz (-2*a) 1000:=Wh.aN (Wh.bc (by omega) (by omega)) (by omega);have hq2:Wh.sz (-8*b) 1000:=Wh.aN (Wh.bc (by omega) (by omega)) (by omega);have haa:-1000000≤a*a∧a*a≤1000000:=M.aL (x:=a) (y:=a) (m:=1000) (n:=1000) (by omega) (by omega) (by omega) (by omega);have hq3:Wh.sz (a*a) 1000:=Wh.aN (Wh.bc (by omega) (by omega)) (by omega)
 have mm:∀ (l:List Int),(∀ y ∈ l,Wh.sz y 1000)→l.length≤5→∀ k,Wh.small ((l.take k).foldl (·*·) 1):=fun l h hl k=>Wh.cH (Wh.aN (Wh.iD h k) (show 1+l.length*1000≤8000 by omega)) (by omega)
 have mp:∀ (l:List Int),(∀ y ∈ l,Wh.sz y 1000)→l.length≤5→Wh.sz (l.foldl (·*·) 1) 6000:=fun l h hl=>by have:=Wh.iD h l.length;rw [List.take_length] at this;exact Wh.aN this (by omega)
 have m0:∀ (l:List Int),(∀ y ∈ l,Wh.sz y 1000)→∀ y ∈ l,Wh.small y:=fun l h y hy=>Wh.cH (h y hy) (by omega)
 have m1:∀ y ∈ ([x,x,x,x]:List Int),Wh.sz y 1000:=by intro y h;simp only [List.mem_cons,List.not_mem_nil,or_false] at h;rcases h with h | h | h | h <;> (subst h;assumption)
 have R1:=fun g cap W (h:bq W g [x,x,x,x])=>bg [x,x,x,x] g cap W h (by simp) (m0 _ m1) (mm _ m1 (by simp))
 have p1:=mp _ m1 (by simp)
 have m2:∀ y ∈ ([-2*a,x,x,z,z]:List Int),Wh.sz y 1000:=by intro y h;simp only [List.mem_cons,List.not_mem_nil,or_false] at h;rcases h with h | h | h | h | h <;> (subst h;assumption)
 have R2:=fun g cap W (h:bq W g [-2*a,x,x,z,z])=>bg [-2*a,x,x,z,z] g cap W h (by simp) (m0 _ m2) (mm _ m2 (by simp))
 have p2:=mp _ m2 (by simp)
 have m3:∀ y ∈ ([-8*b,x,z,z,z]:List Int),Wh.sz y 1000:=by intro y h;simp only [List.mem_cons,List.not_mem_nil,or_false] at h;rcases h with h | h | h | h | h <;> (subst h;assumption)
 have R3:=fun g cap W (h:bq W g [-8*b,x,z,z,z])=>bg [-8*b,x,z,z,z] g cap W h (by simp) (m0 _ m3) (mm _ m3 (by simp))
 have p3:=mp _ m3 (by simp)
 have m4:∀ y ∈ ([a*a,z,z,z,z]:List Int),Wh.sz y 1000:=by intro y h;simp only [List.mem_cons,List.not_mem_nil,or_false] at h;rcases h with h | h | h | h | h <;> (subst h;assumption)
 have R4:=fun g cap W (h:bq W g [a*a,z,z,z,z])=>bg [a*a,z,z,z,z] g cap W h (by simp) (m0 _ m4) (mm _ m4 (by simp))
 have p4:=mp _ m4 (by simp);have hT:=Wh.qR a b x z;generalize hp1:([x,x,x,x]:List Int).foldl (·*·) 1=BH at *;generalize hp2:([-2*a,x,x,z,z]:List Int).foldl (·*·) 1=BI at *;generalize hp3:([-8*b,x,z,z,z]:List Int).foldl (·*·) 1=BJ at *;generalize FE:([a*a,z,z,z,z]:List Int).foldl (·*·) 1=Gm at *
 have ms:∀ y ∈ [BH,BI,BJ,Gm],Wh.sz y 6000:=by intro y h;simp only [List.mem_cons,List.not_mem_nil,or_false] at h;rcases h with h | h | h | h <;> (subst h;assumption)
 have R5:=fun g cap W (h:bq W g [BH,BI,BJ,Gm])=>iw [BH,BI,BJ,Gm] g cap W h (by simp) (fun y hy=>Wh.cH (ms y hy) (by omega)) (fun k=>Wh.cH (Wh.aN (Wh.lX ms (by omega) k) (show 6000+4≤7000 by omega)) (by omega))
 rw [hT] at R5
 have N1:=fun W=>bj (-2*a) W (by omega) (by omega)
 have N2:=fun W=>bj (-8*b) W (by omega) (by omega)
 have N3:=fun W=>bj (a*a) W (by omega) (by omega)
 have i1:IntKind.i64.wrap (-2*a)=-2*a:=IntWalk.i64_in _ (by omega);have i2:IntKind.i64.wrap (-8*b)=-8*b:=IntWalk.i64_in _ (by omega);have i3:IntKind.i64.wrap (a*a)=a*a:=IntWalk.i64_in _ (by omega);clear m1 m2 m3 m4 p1 p2 p3 p4 hp1 hp2 hp3 FE ms mm mp m0 hT;replace R1:=wH R1;replace R2:=wH R2;replace R3:=wH R3;replace R4:=wH R4;replace R5:=wH R5;replace N1:=wH N1;replace N2:=wH N2;replace N3:=wH N3;replace i1:=wH i1;replace i2:=wH i2;replace i3:=wH i3;generalize hF:Wh.aw a b x z=F at *;clear hF;generalize hs1:decide (x<0)=s1 at *;replace hs1:=wH hs1.symm;generalize hs2:decide (z<0)=s2 at *;replace hs2:=wH hs2.symm;replace hox:=wH (show aF _ _ _ _ from hox);replace xZ:=wH (show aF _ _ _ _ from xZ);generalize (Wh.a_ z.natAbs).length=lz,(Wh.a_ x.natAbs).length=lx at *;have b1:=((aH.new w #[.int .i64 a,.int .i64 b] 25).alloc (.cells #[.bool s1,.slice ax lx cx,.bool s2,.slice az lz cz] 127)).alloc (.cells #[.bool false,.slice none 0 0] 125);have b2:=(aH.new (w.alloc (.cells #[.int .i64 a,.int .i64 b] 25)) #[.bool s1,.slice ax lx cx,.bool s2,.slice az lz cz] 127).alloc (.cells #[.bool false,.slice none 0 0] 125);rw [wI] at b2;have b3:=aH.new ((w.alloc (.cells #[.int .i64 a,.int .i64 b] 25)).alloc (.cells #[.bool s1,.slice ax lx cx,.bool s2,.slice az lz cz] 127)) #[.bool false,.slice none 0 0] 125;rw [cr] at b3;have hB:=(((wK w.heap.size w).alloc (wL _) (.cells #[.int .i64 a,.int .i64 b] 25)).alloc (by rw [wI];omega) (.cells #[.bool s1,.slice ax lx cx,.bool s2,.slice az lz cz] 127)).alloc (by rw [cr];omega) (.cells #[.bool false,.slice none 0 0] 125)
 have hz3:(((w.alloc (.cells #[.int .i64 a,.int .i64 b] 25)).alloc (.cells #[.bool s1,.slice ax lx cx,.bool s2,.slice az lz cz] 127)).alloc (.cells #[.bool false,.slice none 0 0] 125)).heap.size=w.heap.size+3:=by rw [wI,cr]
 have AY:=wH (aF.alloc (aF.alloc (aF.alloc hox.out (.cells #[.int .i64 a,.int .i64 b] 25)) (.cells #[.bool s1,.slice ax lx cx,.bool s2,.slice az lz cz] 127)) (.cells #[.bool false,.slice none 0 0] 125));have AZ:=wH (aF.alloc (aF.alloc (aF.alloc xZ.out (.cells #[.int .i64 a,.int .i64 b] 25)) (.cells #[.bool s1,.slice ax lx cx,.bool s2,.slice az lz cz] 127)) (.cells #[.bool false,.slice none 0 0] 125));clear hox xZ;generalize hw3:((w.alloc (.cells #[.int .i64 a,.int .i64 b] 25)).alloc (.cells #[.bool s1,.slice ax lx cx,.bool s2,.slice az lz cz] 127)).alloc (.cells #[.bool false,.slice none 0 0] 125)=w3 at *;have e0:=b2.aP.c0;have e1:=b2.aP.c1;have e2:=b2.aP.c2;have e3:=b2.aP.c3;go_enter Tryz.func180,Tryz.ntmps180
 go_wp2
 go_upto_region 1 with fail
 go_cut [5,6] (fun p q wx=>∃ gx gz,w.heap.size+3≤gx∧w.heap.size+3≤gz∧p=.pointer (some ⟨gx,0,none⟩)∧q=.pointer (some ⟨gz,0,none⟩)∧aH wx gx 125 #[.bool s1,.slice ax lx cx]∧aH wx gz 125 #[.bool s2,.slice az lz cz]∧Below (w.heap.size+3) w3 wx)
 case first=>
  go_region
  all_goals
   go_wp2_with fail
   go_meet
   first
   | exact (nK _ _ hz3 _ _ _ _ _).1
   | exact (nK _ _ hz3 _ _ _ _ _).2
 case rest=>
 obtain ⟨gx,gz,hgx,hgz,rfl,rfl,X,Z,hbx⟩:=hcut;rw [←hz3] at hbx;have ox:=wH (aF.below AY.out hbx);have oz:=wH (aF.below AZ.out hbx);have C:=b1.keep hbx;have R:=b3.keep hbx;have hw:=d_ hB hbx
 have BG:w.heap.size+3≤wc.heap.size:=by have:=hbx.size;omega
 clear hz3;clear b1 b2 b3 e0 e1 e2 e3 hB hbx AY AZ
 go_upto_region 2 with fail
 refine Rg.bO 40 [.is (.agg #[.bool s1,.slice ax lx cx]),.is (.agg #[.bool s1,.slice ax lx cx]),.is (.agg #[.bool s1,.slice ax lx cx]),.is (.agg #[.bool s1,.slice ax lx cx]),.at (b6 (wc.heap.size) [x,x,x,x]),.at (aJ (wc.heap.size) (BH)),.is (.pointer (some ⟨w.heap.size,0,none⟩)),.is (.int .i64 a),.is (.int .i64 ((-2)*a)),.at (aJ (wc.heap.size) (-2*a)),.is (.agg #[.bool s1,.slice ax lx cx]),.is (.agg #[.bool s1,.slice ax lx cx]),.is (.agg #[.bool s2,.slice az lz cz]),.is (.agg #[.bool s2,.slice az lz cz]),.at (b6 (wc.heap.size) [-2*a,x,x,z,z]),.at (aJ (wc.heap.size) (BI)),.is (.pointer (some ⟨w.heap.size,1,none⟩)),.is (.int .i64 b),.is (.int .i64 ((-8)*b)),.at (aJ (wc.heap.size) (-8*b)),.is (.agg #[.bool s1,.slice ax lx cx]),.is (.agg #[.bool s2,.slice az lz cz]),.is (.agg #[.bool s2,.slice az lz cz]),.is (.agg #[.bool s2,.slice az lz cz]),.at (b6 (wc.heap.size) [-8*b,x,z,z,z]),.at (aJ (wc.heap.size) (BJ)),.is (.pointer (some ⟨w.heap.size,0,none⟩)),.is (.int .i64 a),.is (.pointer (some ⟨w.heap.size,0,none⟩)),.is (.int .i64 a),.is (.int .i64 (a*a)),.at (aJ (wc.heap.size) (a*a)),.is (.agg #[.bool s2,.slice az lz cz]),.is (.agg #[.bool s2,.slice az lz cz]),.is (.agg #[.bool s2,.slice az lz cz]),.is (.agg #[.bool s2,.slice az lz cz]),.at (b6 (wc.heap.size) [a*a,z,z,z,z]),.at (aJ (wc.heap.size) (Gm)),.at (b6 (wc.heap.size) [BH,BI,BJ,Gm]),.at (aJ (wc.heap.size) (F))] (by kernel_rfl) (by kernel_rfl) (by kernel_rfl) ⟨?_,?_,?_,?_,?_,?_,?_,?_,?_,?_,?_,?_,?_,?_,?_,?_,?_,?_,?_,?_,?_,?_,?_,?_,?_,?_,?_,?_,?_,?_,?_,?_,?_,?_,?_,?_,?_,?_,?_,?_,fun h_=>absurd h_ (by decide),trivial⟩ ?_
 ·intro _ zZ w_ hB hr
  have e5:zZ.tmps[5]?=some (.pointer (some ⟨gx,0,none⟩)):=hr 5 (by decide);have k0:=aE hB X.box.c0;have k1:=aE hB X.box.c1;exact Rg.aG rfl (by go_simp)
 ·intro _ zZ w_ hB hr
  have e5:zZ.tmps[5]?=some (.pointer (some ⟨gx,0,none⟩)):=hr 5 (by decide);have k0:=aE hB X.box.c0;have k1:=aE hB X.box.c1;exact Rg.aG rfl (by go_simp)
 ·intro _ zZ w_ hB hr
  have e5:zZ.tmps[5]?=some (.pointer (some ⟨gx,0,none⟩)):=hr 5 (by decide);have k0:=aE hB X.box.c0;have k1:=aE hB X.box.c1;exact Rg.aG rfl (by go_simp)
 ·intro _ zZ w_ hB hr
  have e5:zZ.tmps[5]?=some (.pointer (some ⟨gx,0,none⟩)):=hr 5 (by decide);have k0:=aE hB X.box.c0;have k1:=aE hB X.box.c1;exact Rg.aG rfl (by go_simp)
 ·intro _ zZ w_ hB hr
  have e11:=Rg.c_ (hr 11 (by decide));have e12:=Rg.c_ (hr 12 (by decide));have e13:=Rg.c_ (hr 13 (by decide));have e14:=Rg.c_ (hr 14 (by decide));refine Rg.j6 rfl (x:=.slice (some ⟨w_.heap.size,0,none⟩) 4 4) (ob:=.cells (List.toArray [.bool s1,.slice ax lx cx,.bool s1,.slice ax lx cx,.bool s1,.slice ax lx cx,.bool s1,.slice ax lx cx]) 125) (by first | (go_simp;done) | (go_simp;exact ⟨rfl,rfl⟩) | (go_simp;rfl)) (b6.at (by have:=hB.size;omega) ?_ rfl);exact bi.cons hs1.out (aF.below ox.out hB) (bi.cons hs1.out (aF.below ox.out hB) (bi.cons hs1.out (aF.below ox.out hB) (bi.cons hs1.out (aF.below ox.out hB) (bi.nil))))
 ·intro _ zZ w_ hB hr
  obtain ⟨v15,e15,n15⟩:∃ v,zZ.tmps[15]?=some v∧(Rg.Val.at (b6 (wc.heap.size) [x,x,x,x])).ok v w_:=hr 15 (by decide);obtain ⟨g15,rfl,Fk⟩:=Rg.aj n15;have ef:=Rg.ef zZ;refine Rg.ah rfl (by go_simp;exact ⟨rfl,rfl⟩) ?_;refine (R1.out _ _ _ Fk).mono ?_;rintro e w5 ⟨xX,rfl,wW,hb5⟩;exact ⟨_,rfl,aJ.at wW (by have:=hB.size;omega),hb5⟩
 ·intro _ zZ w_ hB hr
  have e2:zZ.tmps[2]?=some (.pointer (some ⟨w.heap.size,0,none⟩)):=hr 2 (by decide);exact Rg.aG rfl (by go_simp)
 ·intro _ zZ w_ hB hr
  have e17:=Rg.c_ (hr 17 (by decide));have k0:=aE hB C.box.c0;exact Rg.aG rfl (by go_simp)
 ·intro _ zZ w_ hB hr
  have e18:=Rg.c_ (hr 18 (by decide));have ec:=Rg.ec zZ;exact Rg.aG rfl (by go_simp <;> exact Rg.wo (by omega))
 ·intro _ zZ w_ hB hr
  have e19:=Rg.c_ (hr 19 (by decide));have ef:=Rg.ef zZ;refine Rg.ah rfl (by go_simp;exact ⟨rfl,rfl⟩) ?_;refine (N1.out _).mono ?_;rintro e w5 ⟨xX,rfl,wW,hb5⟩;exact ⟨_,rfl,aJ.at wW (by have:=hB.size;omega),hb5⟩
 ·intro _ zZ w_ hB hr
  have e5:zZ.tmps[5]?=some (.pointer (some ⟨gx,0,none⟩)):=hr 5 (by decide);have k0:=aE hB X.box.c0;have k1:=aE hB X.box.c1;exact Rg.aG rfl (by go_simp)
 ·intro _ zZ w_ hB hr
  have e5:zZ.tmps[5]?=some (.pointer (some ⟨gx,0,none⟩)):=hr 5 (by decide);have k0:=aE hB X.box.c0;have k1:=aE hB X.box.c1;exact Rg.aG rfl (by go_simp)
 ·intro _ zZ w_ hB hr
  have e6:zZ.tmps[6]?=some (.pointer (some ⟨gz,0,none⟩)):=hr 6 (by decide);have k0:=aE hB Z.box.c0;have k1:=aE hB Z.box.c1;exact Rg.aG rfl (by go_simp)
 ·intro _ zZ w_ hB hr
  have e6:zZ.tmps[6]?=some (.pointer (some ⟨gz,0,none⟩)):=hr 6 (by decide);have k0:=aE hB Z.box.c0;have k1:=aE hB Z.box.c1;exact Rg.aG rfl (by go_simp)
 ·intro _ zZ w_ hB hr
  obtain ⟨v20,e20,n20⟩:∃ v,zZ.tmps[20]?=some v∧(Rg.Val.at (aJ (wc.heap.size) (-2*a))).ok v w_:=hr 20 (by decide);obtain ⟨s20,a20,l20,c20,M9,rfl,o20⟩:=(Rg.aj n20).view;have e21:=Rg.c_ (hr 21 (by decide));have e22:=Rg.c_ (hr 22 (by decide));have e23:=Rg.c_ (hr 23 (by decide));have e24:=Rg.c_ (hr 24 (by decide));refine Rg.j6 rfl (x:=.slice (some ⟨w_.heap.size,0,none⟩) 5 5) (ob:=.cells (List.toArray [.bool s20,.slice a20 l20 c20,.bool s1,.slice ax lx cx,.bool s1,.slice ax lx cx,.bool s2,.slice az lz cz,.bool s2,.slice az lz cz]) 125) (by first | (go_simp;done) | (go_simp;exact ⟨rfl,rfl⟩) | (go_simp;rfl)) (b6.at (by have:=hB.size;omega) ?_ rfl);exact bi.cons M9.out o20 (bi.cons hs1.out (aF.below ox.out hB) (bi.cons hs1.out (aF.below ox.out hB) (bi.cons hs2.out (aF.below oz.out hB) (bi.cons hs2.out (aF.below oz.out hB) (bi.nil)))))
 ·intro _ zZ w_ hB hr
  obtain ⟨v25,e25,n25⟩:∃ v,zZ.tmps[25]?=some v∧(Rg.Val.at (b6 (wc.heap.size) [-2*a,x,x,z,z])).ok v w_:=hr 25 (by decide);obtain ⟨g25,rfl,Jj⟩:=Rg.aj n25;have ef:=Rg.ef zZ;refine Rg.ah rfl (by go_simp;exact ⟨rfl,rfl⟩) ?_;refine (R2.out _ _ _ Jj).mono ?_;rintro e w5 ⟨xX,rfl,wW,hb5⟩;exact ⟨_,rfl,aJ.at wW (by have:=hB.size;omega),hb5⟩
 ·intro _ zZ w_ hB hr
  have e2:zZ.tmps[2]?=some (.pointer (some ⟨w.heap.size,0,none⟩)):=hr 2 (by decide);exact Rg.aG rfl (by go_simp)
 ·intro _ zZ w_ hB hr
  have e27:=Rg.c_ (hr 27 (by decide));have k1:=aE hB C.box.c1;exact Rg.aG rfl (by go_simp)
 ·intro _ zZ w_ hB hr
  have e28:=Rg.c_ (hr 28 (by decide));have ec:=Rg.ec zZ;exact Rg.aG rfl (by go_simp <;> exact Rg.wo (by omega))
 ·intro _ zZ w_ hB hr
  have e29:=Rg.c_ (hr 29 (by decide));have ef:=Rg.ef zZ;refine Rg.ah rfl (by go_simp;exact ⟨rfl,rfl⟩) ?_;refine (N2.out _).mono ?_;rintro e w5 ⟨xX,rfl,wW,hb5⟩;exact ⟨_,rfl,aJ.at wW (by have:=hB.size;omega),hb5⟩
 ·intro _ zZ w_ hB hr
  have e5:zZ.tmps[5]?=some (.pointer (some ⟨gx,0,none⟩)):=hr 5 (by decide);have k0:=aE hB X.box.c0;have k1:=aE hB X.box.c1;exact Rg.aG rfl (by go_simp)
 ·intro _ zZ w_ hB hr
  have e6:zZ.tmps[6]?=some (.pointer (some ⟨gz,0,none⟩)):=hr 6 (by decide);have k0:=aE hB Z.box.c0;have k1:=aE hB Z.box.c1;exact Rg.aG rfl (by go_simp)
 ·intro _ zZ w_ hB hr
  have e6:zZ.tmps[6]?=some (.pointer (some ⟨gz,0,none⟩)):=hr 6 (by decide);have k0:=aE hB Z.box.c0;have k1:=aE hB Z.box.c1;exact Rg.aG rfl (by go_simp)
 ·intro _ zZ w_ hB hr
  have e6:zZ.tmps[6]?=some (.pointer (some ⟨gz,0,none⟩)):=hr 6 (by decide);have k0:=aE hB Z.box.c0;have k1:=aE hB Z.box.c1;exact Rg.aG rfl (by go_simp)
 ·intro _ zZ w_ hB hr
  obtain ⟨v30,e30,n30⟩:∃ v,zZ.tmps[30]?=some v∧(Rg.Val.at (aJ (wc.heap.size) (-8*b))).ok v w_:=hr 30 (by decide);obtain ⟨s30,a30,l30,c30,NE,rfl,o30⟩:=(Rg.aj n30).view;have e31:=Rg.c_ (hr 31 (by decide));have e32:=Rg.c_ (hr 32 (by decide));have e33:=Rg.c_ (hr 33 (by decide));have e34:=Rg.c_ (hr 34 (by decide));refine Rg.j6 rfl (x:=.slice (some ⟨w_.heap.size,0,none⟩) 5 5) (ob:=.cells (List.toArray [.bool s30,.slice a30 l30 c30,.bool s1,.slice ax lx cx,.bool s2,.slice az lz cz,.bool s2,.slice az lz cz,.bool s2,.slice az lz cz]) 125) (by first | (go_simp;done) | (go_simp;exact ⟨rfl,rfl⟩) | (go_simp;rfl)) (b6.at (by have:=hB.size;omega) ?_ rfl);exact bi.cons NE.out o30 (bi.cons hs1.out (aF.below ox.out hB) (bi.cons hs2.out (aF.below oz.out hB) (bi.cons hs2.out (aF.below oz.out hB) (bi.cons hs2.out (aF.below oz.out hB) (bi.nil)))))
 ·intro _ zZ w_ hB hr
  obtain ⟨v35,e35,n35⟩:∃ v,zZ.tmps[35]?=some v∧(Rg.Val.at (b6 (wc.heap.size) [-8*b,x,z,z,z])).ok v w_:=hr 35 (by decide);obtain ⟨g35,rfl,Nu⟩:=Rg.aj n35;have ef:=Rg.ef zZ;refine Rg.ah rfl (by go_simp;exact ⟨rfl,rfl⟩) ?_;refine (R3.out _ _ _ Nu).mono ?_;rintro e w5 ⟨xX,rfl,wW,hb5⟩;exact ⟨_,rfl,aJ.at wW (by have:=hB.size;omega),hb5⟩
 ·intro _ zZ w_ hB hr
  have e2:zZ.tmps[2]?=some (.pointer (some ⟨w.heap.size,0,none⟩)):=hr 2 (by decide);exact Rg.aG rfl (by go_simp)
 ·intro _ zZ w_ hB hr
  have e37:=Rg.c_ (hr 37 (by decide));have k0:=aE hB C.box.c0;exact Rg.aG rfl (by go_simp)
 ·intro _ zZ w_ hB hr
  have e2:zZ.tmps[2]?=some (.pointer (some ⟨w.heap.size,0,none⟩)):=hr 2 (by decide);exact Rg.aG rfl (by go_simp)
 ·intro _ zZ w_ hB hr
  have e39:=Rg.c_ (hr 39 (by decide));have k0:=aE hB C.box.c0;exact Rg.aG rfl (by go_simp)
 ·intro _ zZ w_ hB hr
  have e38:=Rg.c_ (hr 38 (by decide));have e40:=Rg.c_ (hr 40 (by decide));exact Rg.aG rfl (by go_simp <;> exact Rg.wo (by omega))
 ·intro _ zZ w_ hB hr
  have e41:=Rg.c_ (hr 41 (by decide));have ef:=Rg.ef zZ;refine Rg.ah rfl (by go_simp;exact ⟨rfl,rfl⟩) ?_;refine (N3.out _).mono ?_;rintro e w5 ⟨xX,rfl,wW,hb5⟩;exact ⟨_,rfl,aJ.at wW (by have:=hB.size;omega),hb5⟩
 ·intro _ zZ w_ hB hr
  have e6:zZ.tmps[6]?=some (.pointer (some ⟨gz,0,none⟩)):=hr 6 (by decide);have k0:=aE hB Z.box.c0;have k1:=aE hB Z.box.c1;exact Rg.aG rfl (by go_simp)
 ·intro _ zZ w_ hB hr
  have e6:zZ.tmps[6]?=some (.pointer (some ⟨gz,0,none⟩)):=hr 6 (by decide);have k0:=aE hB Z.box.c0;have k1:=aE hB Z.box.c1;exact Rg.aG rfl (by go_simp)
 ·intro _ zZ w_ hB hr
  have e6:zZ.tmps[6]?=some (.pointer (some ⟨gz,0,none⟩)):=hr 6 (by decide);have k0:=aE hB Z.box.c0;have k1:=aE hB Z.box.c1;exact Rg.aG rfl (by go_simp)
 ·intro _ zZ w_ hB hr
  have e6:zZ.tmps[6]?=some (.pointer (some ⟨gz,0,none⟩)):=hr 6 (by decide);have k0:=aE hB Z.box.c0;have k1:=aE hB Z.box.c1;exact Rg.aG rfl (by go_simp)
 ·intro _ zZ w_ hB hr
  obtain ⟨v42,e42,n42⟩:∃ v,zZ.tmps[42]?=some v∧(Rg.Val.at (aJ (wc.heap.size) (a*a))).ok v w_:=hr 42 (by decide);obtain ⟨s42,a42,l42,c42,NN,rfl,o42⟩:=(Rg.aj n42).view;have e43:=Rg.c_ (hr 43 (by decide));have e44:=Rg.c_ (hr 44 (by decide));have e45:=Rg.c_ (hr 45 (by decide));have e46:=Rg.c_ (hr 46 (by decide));refine Rg.j6 rfl (x:=.slice (some ⟨w_.heap.size,0,none⟩) 5 5) (ob:=.cells (List.toArray [.bool s42,.slice a42 l42 c42,.bool s2,.slice az lz cz,.bool s2,.slice az lz cz,.bool s2,.slice az lz cz,.bool s2,.slice az lz cz]) 125) (by first | (go_simp;done) | (go_simp;exact ⟨rfl,rfl⟩) | (go_simp;rfl)) (b6.at (by have:=hB.size;omega) ?_ rfl);exact bi.cons NN.out o42 (bi.cons hs2.out (aF.below oz.out hB) (bi.cons hs2.out (aF.below oz.out hB) (bi.cons hs2.out (aF.below oz.out hB) (bi.cons hs2.out (aF.below oz.out hB) (bi.nil)))))
 ·intro _ zZ w_ hB hr
  obtain ⟨v47,e47,n47⟩:∃ v,zZ.tmps[47]?=some v∧(Rg.Val.at (b6 (wc.heap.size) [a*a,z,z,z,z])).ok v w_:=hr 47 (by decide);obtain ⟨g47,rfl,Nw⟩:=Rg.aj n47;have ef:=Rg.ef zZ;refine Rg.ah rfl (by go_simp;exact ⟨rfl,rfl⟩) ?_;refine (R4.out _ _ _ Nw).mono ?_;rintro e w5 ⟨xX,rfl,wW,hb5⟩;exact ⟨_,rfl,aJ.at wW (by have:=hB.size;omega),hb5⟩
 ·intro _ zZ w_ hB hr
  obtain ⟨v16,e16,n16⟩:∃ v,zZ.tmps[16]?=some v∧(Rg.Val.at (aJ (wc.heap.size) (BH))).ok v w_:=hr 16 (by decide);obtain ⟨s16,a16,CB,c16,Ap,rfl,o16⟩:=(Rg.aj n16).view;obtain ⟨v26,e26,n26⟩:∃ v,zZ.tmps[26]?=some v∧(Rg.Val.at (aJ (wc.heap.size) (BI))).ok v w_:=hr 26 (by decide);obtain ⟨s26,a26,l26,c26,Gc,rfl,Ns⟩:=(Rg.aj n26).view;obtain ⟨v36,e36,n36⟩:∃ v,zZ.tmps[36]?=some v∧(Rg.Val.at (aJ (wc.heap.size) (BJ))).ok v w_:=hr 36 (by decide);obtain ⟨s36,a36,l36,c36,NI,rfl,o36⟩:=(Rg.aj n36).view;obtain ⟨v48,e48,n48⟩:∃ v,zZ.tmps[48]?=some v∧(Rg.Val.at (aJ (wc.heap.size) (Gm))).ok v w_:=hr 48 (by decide);obtain ⟨Iq,a48,IU,H7,Gf,rfl,Nx⟩:=(Rg.aj n48).view;refine Rg.j6 rfl (x:=.slice (some ⟨w_.heap.size,0,none⟩) 4 4) (ob:=.cells (List.toArray [.bool s16,.slice a16 CB c16,.bool s26,.slice a26 l26 c26,.bool s36,.slice a36 l36 c36,.bool Iq,.slice a48 IU H7]) 125) (by first | (go_simp;done) | (go_simp;exact ⟨rfl,rfl⟩) | (go_simp;rfl)) (b6.at (by have:=hB.size;omega) ?_ rfl);exact bi.cons Ap.out o16 (bi.cons Gc.out Ns (bi.cons NI.out o36 (bi.cons Gf.out Nx (bi.nil))))
 ·intro _ zZ w_ hB hr
  obtain ⟨v49,e49,n49⟩:∃ v,zZ.tmps[49]?=some v∧(Rg.Val.at (b6 (wc.heap.size) [BH,BI,BJ,Gm])).ok v w_:=hr 49 (by decide);obtain ⟨g49,rfl,o49⟩:=Rg.aj n49;have ef:=Rg.ef zZ;refine Rg.ah rfl (by go_simp;exact ⟨rfl,rfl⟩) ?_;refine (R5.out _ _ _ o49).mono ?_;rintro e w5 ⟨xX,rfl,wW,hb5⟩;exact ⟨_,rfl,aJ.at wW (by have:=hB.size;omega),hb5⟩
 intro vals wz hB hv hne;have n50:(Rg.Val.at (aJ (wc.heap.size) (F))).ok (vals 39) wz:=hv 39 (by decide);simp only [Rg.ay,Rg.fill,Act.put,Nat.reduceAdd];clear hv;obtain ⟨OO,a50,Nl,MH,NP,I9,o50⟩:=(Rg.aj n50).view;simp only [I9];clear I9;have R2:=R.keep hB;have ⟨c0,c1,f0,f1,_⟩:=R2.box;have hr1:=aF.base (aF.bM o50 R2 (by decide) (.bool OO) (.slice a50 Nl MH)) (Nat.le_trans (Nat.le_add_right _ 3) BG);have hr2:Below w.heap.size w ((wz.setCell ⟨w.heap.size+1+1,0,none⟩ (.bool OO)).setCell ⟨w.heap.size+1+1,1,none⟩ (.slice a50 Nl MH)):=wJ (wJ (d_ hw hB) (by simp <;> omega) _) (by simp <;> omega) _;unfold Rg.aZ Rg.aZ Oper.wp
 go_simp
 go_wp2;exact bodyPost_ret (v:=.agg #[.bool OO,.slice a50 Nl MH]) (by simp [results,Tryz.results180,go_sem, *]) rfl (⟨_,by rw [NP.out],hr1,hr2⟩)
theorem dc (a b x z:Int) (vx vz:Value) (w:World) (bx bz:Nat) (hox:ak w bx vx x) (xZ:ak w bz vz z) (hx:Wh.sz x 1000) (hz:Wh.sz z 1000) (ha1:-1000≤a) (ha2:a≤1000) (hb1:-10000≤b) (hb2:b≤10000) :
  Calls Tryz.prog 154 #[.agg #[.int .i64 a,.int .i64 b],.agg #[.bool (decide (x<0)),vx,.bool (decide (z<0)),vz]] w fun e w'=>∃ sl,e=.returned (.agg #[.bool (decide (Wh.am a b x z<0)),sl])∧ak w' w.heap.size sl (Wh.am a b x z)∧Below w.heap.size w w':=by
 obtain ⟨ax,cx,rfl,-,-⟩:=aF.view hox;obtain ⟨az,cz,rfl,-,-⟩:=aF.view xZ;have hq1:Wh.sz a 1000:=Wh.aN (Wh.bc (by omega) (by omega)) (by omega);have hq2:Wh.sz b 1000:=Wh.aN (Wh.bc (by omega) (by omega)) (by omega);have hq3:Wh.sz 4 1000:=Wh.aN (Wh.bc (by omega) (by omega)) (by omega)
 have mm:∀ (l:List Int),(∀ y ∈ l,Wh.sz y 1000)→l.length≤5→∀ k,Wh.small ((l.take k).foldl (·*·) 1):=fun l h hl k=>Wh.cH (Wh.aN (Wh.iD h k) (show 1+l.length*1000≤8000 by omega)) (by omega)
 have mp:∀ (l:List Int),(∀ y ∈ l,Wh.sz y 1000)→l.length≤4→Wh.sz (l.foldl (·*·) 1) 4001:=fun l h hl=>by have:=Wh.iD h l.length;rw [List.take_length] at this;exact Wh.aN this (by omega)
 have m0:∀ (l:List Int),(∀ y ∈ l,Wh.sz y 1000)→∀ y ∈ l,Wh.small y:=fun l h y hy=>Wh.cH (h y hy) (by omega)
 have m1:∀ y ∈ ([x,x,x]:List Int),Wh.sz y 1000:=by intro y h;simp only [List.mem_cons,List.not_mem_nil,or_false] at h;rcases h with h | h | h <;> (subst h;assumption)
 have R1:=fun g cap W (h:bq W g [x,x,x])=>bg [x,x,x] g cap W h (by simp) (m0 _ m1) (mm _ m1 (by simp))
 have p1:=mp _ m1 (by simp)
 have m2:∀ y ∈ ([a,x,z,z]:List Int),Wh.sz y 1000:=by intro y h;simp only [List.mem_cons,List.not_mem_nil,or_false] at h;rcases h with h | h | h | h <;> (subst h;assumption)
 have R2:=fun g cap W (h:bq W g [a,x,z,z])=>bg [a,x,z,z] g cap W h (by simp) (m0 _ m2) (mm _ m2 (by simp))
 have p2:=mp _ m2 (by simp)
 have m3:∀ y ∈ ([b,z,z,z]:List Int),Wh.sz y 1000:=by intro y h;simp only [List.mem_cons,List.not_mem_nil,or_false] at h;rcases h with h | h | h | h <;> (subst h;assumption)
 have R3:=fun g cap W (h:bq W g [b,z,z,z])=>bg [b,z,z,z] g cap W h (by simp) (m0 _ m3) (mm _ m3 (by simp))
 have p3:=mp _ m3 (by simp);have hT:=Wh.pi a b x z;generalize hp1:([x,x,x]:List Int).foldl (·*·) 1=BH at *;generalize hp2:([a,x,z,z]:List Int).foldl (·*·) 1=BI at *;generalize hp3:([b,z,z,z]:List Int).foldl (·*·) 1=BJ at *
 have ms:∀ y ∈ [BH,BI,BJ],Wh.sz y 4001:=by intro y h;simp only [List.mem_cons,List.not_mem_nil,or_false] at h;rcases h with h | h | h <;> (subst h;assumption)
 have R5:=fun g cap W (h:bq W g [BH,BI,BJ])=>iw [BH,BI,BJ] g cap W h (by simp) (fun y hy=>Wh.cH (ms y hy) (by omega)) (fun k=>Wh.cH (Wh.aN (Wh.lX ms (by omega) k) (show 4001+3≤7000 by omega)) (by omega))
 have M4:=Wh.lX ms (by omega) 3;rw [show ([BH,BI,BJ]:List Int).take 3=[BH,BI,BJ] from rfl] at M4;generalize AH:([BH,BI,BJ]:List Int).foldl (·+·) 0=Gn at *;have M5:Wh.sz Gn 4004:=M4
 have R6:=fun g cap W (h:bq W g [4,z,Gn])=>bg [4,z,Gn] g cap W h (by simp) (by
  intro y h;simp only [List.mem_cons,List.not_mem_nil,or_false] at h;rcases h with h | h | h
  ·subst h;exact Wh.cH hq3 (by omega)
  ·subst h;exact Wh.cH hz (by omega)
  ·subst h;exact Wh.cH M5 (by omega)) (fun k=>by
  have y0:=Wh.sQ;have y1:=Wh.bB y0 hq3;have y2:=Wh.bB y1 hz;have y3:=Wh.bB y2 M5
  match k with
  | 0=>exact Wh.cH y0 (by omega)
  | 1=>exact Wh.cH y1 (by omega)
  | 2=>exact Wh.cH y2 (by omega)
  | k+3=>rw [List.take_of_length_le (by simp)];exact Wh.cH y3 (by omega))
 rw [hT] at R6
 have N1:=fun W=>bj a W (by omega) (by omega)
 have N2:=fun W=>bj b W (by omega) (by omega)
 have N3:=fun W=>bj 4 W (by omega) (by omega)
 clear m1 m2 m3 p1 p2 p3 hp1 hp2 hp3 ms mm mp m0 hT AH M4 M5;replace R1:=wH R1;replace R2:=wH R2;replace R3:=wH R3;replace R5:=wH R5;replace R6:=wH R6;replace N1:=wH N1;replace N2:=wH N2;replace N3:=wH N3;generalize hF:Wh.am a b x z=F at *;clear hF;generalize hs1:decide (x<0)=s1 at *;replace hs1:=wH hs1.symm;generalize hs2:decide (z<0)=s2 at *;replace hs2:=wH hs2.symm;replace hox:=wH (show aF _ _ _ _ from hox);replace xZ:=wH (show aF _ _ _ _ from xZ);generalize (Wh.a_ z.natAbs).length=lz,(Wh.a_ x.natAbs).length=lx at *;have b1:=((aH.new w #[.int .i64 a,.int .i64 b] 25).alloc (.cells #[.bool s1,.slice ax lx cx,.bool s2,.slice az lz cz] 127)).alloc (.cells #[.bool false,.slice none 0 0] 125);have b2:=(aH.new (w.alloc (.cells #[.int .i64 a,.int .i64 b] 25)) #[.bool s1,.slice ax lx cx,.bool s2,.slice az lz cz] 127).alloc (.cells #[.bool false,.slice none 0 0] 125);rw [wI] at b2;have b3:=aH.new ((w.alloc (.cells #[.int .i64 a,.int .i64 b] 25)).alloc (.cells #[.bool s1,.slice ax lx cx,.bool s2,.slice az lz cz] 127)) #[.bool false,.slice none 0 0] 125;rw [cr] at b3;have hB:=(((wK w.heap.size w).alloc (wL _) (.cells #[.int .i64 a,.int .i64 b] 25)).alloc (by rw [wI];omega) (.cells #[.bool s1,.slice ax lx cx,.bool s2,.slice az lz cz] 127)).alloc (by rw [cr];omega) (.cells #[.bool false,.slice none 0 0] 125)
 have hz3:(((w.alloc (.cells #[.int .i64 a,.int .i64 b] 25)).alloc (.cells #[.bool s1,.slice ax lx cx,.bool s2,.slice az lz cz] 127)).alloc (.cells #[.bool false,.slice none 0 0] 125)).heap.size=w.heap.size+3:=by rw [wI,cr]
 have AY:=wH (aF.alloc (aF.alloc (aF.alloc hox.out (.cells #[.int .i64 a,.int .i64 b] 25)) (.cells #[.bool s1,.slice ax lx cx,.bool s2,.slice az lz cz] 127)) (.cells #[.bool false,.slice none 0 0] 125));have AZ:=wH (aF.alloc (aF.alloc (aF.alloc xZ.out (.cells #[.int .i64 a,.int .i64 b] 25)) (.cells #[.bool s1,.slice ax lx cx,.bool s2,.slice az lz cz] 127)) (.cells #[.bool false,.slice none 0 0] 125));clear hox xZ;generalize hw3:((w.alloc (.cells #[.int .i64 a,.int .i64 b] 25)).alloc (.cells #[.bool s1,.slice ax lx cx,.bool s2,.slice az lz cz] 127)).alloc (.cells #[.bool false,.slice none 0 0] 125)=w3 at *;have e0:=b2.aP.c0;have e1:=b2.aP.c1;have e2:=b2.aP.c2;have e3:=b2.aP.c3;go_enter Tryz.func154,Tryz.ntmps154
 go_wp2
 go_upto_region 1 with fail
 go_cut [5,6] (fun p q wx=>∃ gx gz,w.heap.size+3≤gx∧w.heap.size+3≤gz∧p=.pointer (some ⟨gx,0,none⟩)∧q=.pointer (some ⟨gz,0,none⟩)∧aH wx gx 125 #[.bool s1,.slice ax lx cx]∧aH wx gz 125 #[.bool s2,.slice az lz cz]∧Below (w.heap.size+3) w3 wx)
 case first=>
  go_region
  all_goals
   go_wp2_with fail
   go_meet
   first
   | exact (nK _ _ hz3 _ _ _ _ _).1
   | exact (nK _ _ hz3 _ _ _ _ _).2
 case rest=>
 obtain ⟨gx,gz,hgx,hgz,rfl,rfl,X,Z,hbx⟩:=hcut;rw [←hz3] at hbx;have ox:=wH (aF.below AY.out hbx);have oz:=wH (aF.below AZ.out hbx);have C:=b1.keep hbx;have R:=b3.keep hbx;have hw:=d_ hB hbx
 have BG:w.heap.size+3≤wc.heap.size:=by have:=hbx.size;omega
 clear hz3;clear b1 b2 b3 e0 e1 e2 e3 hB hbx AY AZ
 go_upto_region 2 with fail
 refine Rg.bO 24 [.is (.agg #[.bool s1,.slice ax lx cx]),.is (.agg #[.bool s1,.slice ax lx cx]),.is (.agg #[.bool s1,.slice ax lx cx]),.at (b6 (wc.heap.size) [x,x,x]),.at (aJ (wc.heap.size) (BH)),.is (.pointer (some ⟨w.heap.size,0,none⟩)),.is (.int .i64 a),.at (aJ (wc.heap.size) (a)),.is (.agg #[.bool s1,.slice ax lx cx]),.is (.agg #[.bool s2,.slice az lz cz]),.is (.agg #[.bool s2,.slice az lz cz]),.at (b6 (wc.heap.size) [a,x,z,z]),.at (aJ (wc.heap.size) (BI)),.is (.pointer (some ⟨w.heap.size,1,none⟩)),.is (.int .i64 b),.at (aJ (wc.heap.size) (b)),.is (.agg #[.bool s2,.slice az lz cz]),.is (.agg #[.bool s2,.slice az lz cz]),.is (.agg #[.bool s2,.slice az lz cz]),.at (b6 (wc.heap.size) [b,z,z,z]),.at (aJ (wc.heap.size) (BJ)),.at (b6 (wc.heap.size) [BH,BI,BJ]),.at (aJ (wc.heap.size) (Gn)),.new (wc.heap.size) 125 #[.bool false,.slice none 0 0]] (by kernel_rfl) (by kernel_rfl) (by kernel_rfl) ⟨?_,?_,?_,?_,?_,?_,?_,?_,?_,?_,?_,?_,?_,?_,?_,?_,?_,?_,?_,?_,?_,?_,?_,?_,fun h_=>absurd h_ (by decide),trivial⟩ ?_
 ·intro _ zZ w_ hB hr
  have e5:zZ.tmps[5]?=some (.pointer (some ⟨gx,0,none⟩)):=hr 5 (by decide);have k0:=aE hB X.box.c0;have k1:=aE hB X.box.c1;exact Rg.aG rfl (by go_simp)
 ·intro _ zZ w_ hB hr
  have e5:zZ.tmps[5]?=some (.pointer (some ⟨gx,0,none⟩)):=hr 5 (by decide);have k0:=aE hB X.box.c0;have k1:=aE hB X.box.c1;exact Rg.aG rfl (by go_simp)
 ·intro _ zZ w_ hB hr
  have e5:zZ.tmps[5]?=some (.pointer (some ⟨gx,0,none⟩)):=hr 5 (by decide);have k0:=aE hB X.box.c0;have k1:=aE hB X.box.c1;exact Rg.aG rfl (by go_simp)
 ·intro _ zZ w_ hB hr
  have e12:=Rg.c_ (hr 12 (by decide));have e13:=Rg.c_ (hr 13 (by decide));have e14:=Rg.c_ (hr 14 (by decide));refine Rg.j6 rfl (x:=.slice (some ⟨w_.heap.size,0,none⟩) 3 3) (ob:=.cells (List.toArray [.bool s1,.slice ax lx cx,.bool s1,.slice ax lx cx,.bool s1,.slice ax lx cx]) 125) (by first | (go_simp;done) | (go_simp;exact ⟨rfl,rfl⟩) | (go_simp;rfl)) (b6.at (by have:=hB.size;omega) ?_ rfl);exact bi.cons hs1.out (aF.below ox.out hB) (bi.cons hs1.out (aF.below ox.out hB) (bi.cons hs1.out (aF.below ox.out hB) (bi.nil)))
 ·intro _ zZ w_ hB hr
  obtain ⟨v15,e15,n15⟩:∃ v,zZ.tmps[15]?=some v∧(Rg.Val.at (b6 (wc.heap.size) [x,x,x])).ok v w_:=hr 15 (by decide);obtain ⟨g15,rfl,Fk⟩:=Rg.aj n15;have ef:=Rg.ef zZ;refine Rg.ah rfl (by go_simp;exact ⟨rfl,rfl⟩) ?_;refine (R1.out _ _ _ Fk).mono ?_;rintro e w5 ⟨xX,rfl,wW,hb5⟩;exact ⟨_,rfl,aJ.at wW (by have:=hB.size;omega),hb5⟩
 ·intro _ zZ w_ hB hr
  have e2:zZ.tmps[2]?=some (.pointer (some ⟨w.heap.size,0,none⟩)):=hr 2 (by decide);exact Rg.aG rfl (by go_simp)
 ·intro _ zZ w_ hB hr
  have e17:=Rg.c_ (hr 17 (by decide));have k0:=aE hB C.box.c0;exact Rg.aG rfl (by go_simp)
 ·intro _ zZ w_ hB hr
  have e18:=Rg.c_ (hr 18 (by decide));have ef:=Rg.ef zZ;refine Rg.ah rfl (by go_simp;exact ⟨rfl,rfl⟩) ?_;refine (N1.out _).mono ?_;rintro e w5 ⟨xX,rfl,wW,hb5⟩;exact ⟨_,rfl,aJ.at wW (by have:=hB.size;omega),hb5⟩
 ·intro _ zZ w_ hB hr
  have e5:zZ.tmps[5]?=some (.pointer (some ⟨gx,0,none⟩)):=hr 5 (by decide);have k0:=aE hB X.box.c0;have k1:=aE hB X.box.c1;exact Rg.aG rfl (by go_simp)
 ·intro _ zZ w_ hB hr
  have e6:zZ.tmps[6]?=some (.pointer (some ⟨gz,0,none⟩)):=hr 6 (by decide);have k0:=aE hB Z.box.c0;have k1:=aE hB Z.box.c1;exact Rg.aG rfl (by go_simp)
 ·intro _ zZ w_ hB hr
  have e6:zZ.tmps[6]?=some (.pointer (some ⟨gz,0,none⟩)):=hr 6 (by decide);have k0:=aE hB Z.box.c0;have k1:=aE hB Z.box.c1;exact Rg.aG rfl (by go_simp)
 ·intro _ zZ w_ hB hr
  obtain ⟨v19,e19,n19⟩:∃ v,zZ.tmps[19]?=some v∧(Rg.Val.at (aJ (wc.heap.size) (a))).ok v w_:=hr 19 (by decide);obtain ⟨C0,DY,Cc,c19,Ar,rfl,HS⟩:=(Rg.aj n19).view;have e20:=Rg.c_ (hr 20 (by decide));have e21:=Rg.c_ (hr 21 (by decide));have e22:=Rg.c_ (hr 22 (by decide));refine Rg.j6 rfl (x:=.slice (some ⟨w_.heap.size,0,none⟩) 4 4) (ob:=.cells (List.toArray [.bool C0,.slice DY Cc c19,.bool s1,.slice ax lx cx,.bool s2,.slice az lz cz,.bool s2,.slice az lz cz]) 125) (by first | (go_simp;done) | (go_simp;exact ⟨rfl,rfl⟩) | (go_simp;rfl)) (b6.at (by have:=hB.size;omega) ?_ rfl);exact bi.cons Ar.out HS (bi.cons hs1.out (aF.below ox.out hB) (bi.cons hs2.out (aF.below oz.out hB) (bi.cons hs2.out (aF.below oz.out hB) (bi.nil))))
 ·intro _ zZ w_ hB hr
  obtain ⟨v23,e23,n23⟩:∃ v,zZ.tmps[23]?=some v∧(Rg.Val.at (b6 (wc.heap.size) [a,x,z,z])).ok v w_:=hr 23 (by decide);obtain ⟨g23,rfl,Gj⟩:=Rg.aj n23;have ef:=Rg.ef zZ;refine Rg.ah rfl (by go_simp;exact ⟨rfl,rfl⟩) ?_;refine (R2.out _ _ _ Gj).mono ?_;rintro e w5 ⟨xX,rfl,wW,hb5⟩;exact ⟨_,rfl,aJ.at wW (by have:=hB.size;omega),hb5⟩
 ·intro _ zZ w_ hB hr
  have e2:zZ.tmps[2]?=some (.pointer (some ⟨w.heap.size,0,none⟩)):=hr 2 (by decide);exact Rg.aG rfl (by go_simp)
 ·intro _ zZ w_ hB hr
  have e25:=Rg.c_ (hr 25 (by decide));have k1:=aE hB C.box.c1;exact Rg.aG rfl (by go_simp)
 ·intro _ zZ w_ hB hr
  have e26:=Rg.c_ (hr 26 (by decide));have ef:=Rg.ef zZ;refine Rg.ah rfl (by go_simp;exact ⟨rfl,rfl⟩) ?_;refine (N2.out _).mono ?_;rintro e w5 ⟨xX,rfl,wW,hb5⟩;exact ⟨_,rfl,aJ.at wW (by have:=hB.size;omega),hb5⟩
 ·intro _ zZ w_ hB hr
  have e6:zZ.tmps[6]?=some (.pointer (some ⟨gz,0,none⟩)):=hr 6 (by decide);have k0:=aE hB Z.box.c0;have k1:=aE hB Z.box.c1;exact Rg.aG rfl (by go_simp)
 ·intro _ zZ w_ hB hr
  have e6:zZ.tmps[6]?=some (.pointer (some ⟨gz,0,none⟩)):=hr 6 (by decide);have k0:=aE hB Z.box.c0;have k1:=aE hB Z.box.c1;exact Rg.aG rfl (by go_simp)
 ·intro _ zZ w_ hB hr
  have e6:zZ.tmps[6]?=some (.pointer (some ⟨gz,0,none⟩)):=hr 6 (by decide);have k0:=aE hB Z.box.c0;have k1:=aE hB Z.box.c1;exact Rg.aG rfl (by go_simp)
 ·intro _ zZ w_ hB hr
  obtain ⟨v27,e27,n27⟩:∃ v,zZ.tmps[27]?=some v∧(Rg.Val.at (aJ (wc.heap.size) (b))).ok v w_:=hr 27 (by decide);obtain ⟨Gx,a27,Gh,F9,Gd,rfl,Jk⟩:=(Rg.aj n27).view;have e28:=Rg.c_ (hr 28 (by decide));have e29:=Rg.c_ (hr 29 (by decide));have e30:=Rg.c_ (hr 30 (by decide));refine Rg.j6 rfl (x:=.slice (some ⟨w_.heap.size,0,none⟩) 4 4) (ob:=.cells (List.toArray [.bool Gx,.slice a27 Gh F9,.bool s2,.slice az lz cz,.bool s2,.slice az lz cz,.bool s2,.slice az lz cz]) 125) (by first | (go_simp;done) | (go_simp;exact ⟨rfl,rfl⟩) | (go_simp;rfl)) (b6.at (by have:=hB.size;omega) ?_ rfl);exact bi.cons Gd.out Jk (bi.cons hs2.out (aF.below oz.out hB) (bi.cons hs2.out (aF.below oz.out hB) (bi.cons hs2.out (aF.below oz.out hB) (bi.nil))))
 ·intro _ zZ w_ hB hr
  obtain ⟨v31,e31,n31⟩:∃ v,zZ.tmps[31]?=some v∧(Rg.Val.at (b6 (wc.heap.size) [b,z,z,z])).ok v w_:=hr 31 (by decide);obtain ⟨g31,rfl,Nt⟩:=Rg.aj n31;have ef:=Rg.ef zZ;refine Rg.ah rfl (by go_simp;exact ⟨rfl,rfl⟩) ?_;refine (R3.out _ _ _ Nt).mono ?_;rintro e w5 ⟨xX,rfl,wW,hb5⟩;exact ⟨_,rfl,aJ.at wW (by have:=hB.size;omega),hb5⟩
 ·intro _ zZ w_ hB hr
  obtain ⟨v16,e16,n16⟩:∃ v,zZ.tmps[16]?=some v∧(Rg.Val.at (aJ (wc.heap.size) (BH))).ok v w_:=hr 16 (by decide);obtain ⟨s16,a16,CB,c16,Ap,rfl,o16⟩:=(Rg.aj n16).view;obtain ⟨v24,e24,n24⟩:∃ v,zZ.tmps[24]?=some v∧(Rg.Val.at (aJ (wc.heap.size) (BI))).ok v w_:=hr 24 (by decide);obtain ⟨s24,a24,EM,c24,Cw,rfl,HU⟩:=(Rg.aj n24).view;obtain ⟨v32,e32,n32⟩:∃ v,zZ.tmps[32]?=some v∧(Rg.Val.at (aJ (wc.heap.size) (BJ))).ok v w_:=hr 32 (by decide);obtain ⟨s32,a32,l32,c32,Ge,rfl,o32⟩:=(Rg.aj n32).view;refine Rg.j6 rfl (x:=.slice (some ⟨w_.heap.size,0,none⟩) 3 3) (ob:=.cells (List.toArray [.bool s16,.slice a16 CB c16,.bool s24,.slice a24 EM c24,.bool s32,.slice a32 l32 c32]) 125) (by first | (go_simp;done) | (go_simp;exact ⟨rfl,rfl⟩) | (go_simp;rfl)) (b6.at (by have:=hB.size;omega) ?_ rfl);exact bi.cons Ap.out o16 (bi.cons Cw.out HU (bi.cons Ge.out o32 (bi.nil)))
 ·intro _ zZ w_ hB hr
  obtain ⟨v33,e33,n33⟩:∃ v,zZ.tmps[33]?=some v∧(Rg.Val.at (b6 (wc.heap.size) [BH,BI,BJ])).ok v w_:=hr 33 (by decide);obtain ⟨g33,rfl,Gk⟩:=Rg.aj n33;have ef:=Rg.ef zZ;refine Rg.ah rfl (by go_simp;exact ⟨rfl,rfl⟩) ?_;refine (R5.out _ _ _ Gk).mono ?_;rintro e w5 ⟨xX,rfl,wW,hb5⟩;exact ⟨_,rfl,aJ.at wW (by have:=hB.size;omega),hb5⟩
 ·intro _ zZ w_ hB hr
  exact ⟨by have:=hB.size;omega,rfl,by first | (go_simp;done) | (go_simp;rfl)⟩
 intro vals wz hB hv hne;have n7:(Rg.Val.new (wc.heap.size) 125 #[.bool false,.slice none 0 0]).ok (vals 23) wz:=hv 23 (by decide);have n34:(Rg.Val.at (aJ (wc.heap.size) (Gn))).ok (vals 22) wz:=hv 22 (by decide);simp only [Rg.ay,Rg.fill,Act.put,Nat.reduceAdd];clear hv;obtain ⟨g7,Ff,I6,o7⟩:=n7;replace o7:aH wz g7 125 #[.bool false,.slice none 0 0]:=o7;obtain ⟨HV,a34,HR,c34,NG,ED,o34⟩:=(Rg.aj n34).view;simp only [I6,ED];clear I6 ED;have hB2:Below wc.heap.size wc ((wz.setCell ⟨g7,0,none⟩ (.bool HV)).setCell ⟨g7,1,none⟩ (.slice a34 HR c34)):=wJ (wJ hB Ff _) Ff _;have D:=aH.set2 o7 (.bool HV) (.slice a34 HR c34);have oD:=wH (aF.bM o34 o7 (by decide) (.bool HV) (.slice a34 HR c34));have ⟨c0,c1,f0,f1,_⟩:=o7.box;unfold Rg.aZ Rg.aZ Oper.wp
 go_simp
 clear c0 c1 f0 f1 o7 o34;generalize ((wz.setCell ⟨g7,0,none⟩ (.bool HV)).setCell ⟨g7,1,none⟩ (.slice a34 HR c34))=wd at *;replace Z:=Z.keep hB2;replace R:=R.keep hB2;replace oz:=wH (aF.below oz.out hB2);replace hw:=d_ hw hB2;have Cy:wc.heap.size≤wd.heap.size:=hB2.size
 go_upto_region 3 with fail
 clear hB2;refine Rg.bO 5 [.at (aJ (wd.heap.size) (4)),.is (.agg #[.bool s2,.slice az lz cz]),.is (.agg #[.bool HV,.slice a34 HR c34]),.at (b6 (wd.heap.size) [4,z,Gn]),.at (aJ (wd.heap.size) (F))] (by kernel_rfl) (by kernel_rfl) (by kernel_rfl) ⟨?_,?_,?_,?_,?_,fun h_=>absurd h_ (by decide),trivial⟩ ?_
 ·intro _ zZ w_ hB hr
  have ec:=Rg.ec zZ;have ef:=Rg.ef zZ;refine Rg.ah rfl (by go_simp;exact ⟨rfl,rfl⟩) ?_;refine (N3.out _).mono ?_;rintro e w5 ⟨xX,rfl,wW,hb5⟩;exact ⟨_,rfl,aJ.at wW (by have:=hB.size;omega),hb5⟩
 ·intro _ zZ w_ hB hr
  have e6:zZ.tmps[6]?=some (.pointer (some ⟨gz,0,none⟩)):=hr 6 (by decide);have k0:=aE hB Z.box.c0;have k1:=aE hB Z.box.c1;exact Rg.aG rfl (by go_simp)
 ·intro _ zZ w_ hB hr
  have e7:zZ.tmps[7]?=some (.pointer (some ⟨g7,0,none⟩)):=hr 7 (by decide);have k0:=aE hB D.box.c0;have k1:=aE hB D.box.c1;exact Rg.aG rfl (by go_simp)
 ·intro _ zZ w_ hB hr
  obtain ⟨v35,e35,n35⟩:∃ v,zZ.tmps[35]?=some v∧(Rg.Val.at (aJ (wd.heap.size) (4))).ok v w_:=hr 35 (by decide);obtain ⟨s35,a35,l35,c35,NH,rfl,Nu⟩:=(Rg.aj n35).view;have e36:=Rg.c_ (hr 36 (by decide));have e37:=Rg.c_ (hr 37 (by decide));refine Rg.j6 rfl (x:=.slice (some ⟨w_.heap.size,0,none⟩) 3 3) (ob:=.cells (List.toArray [.bool s35,.slice a35 l35 c35,.bool s2,.slice az lz cz,.bool HV,.slice a34 HR c34]) 125) (by first | (go_simp;done) | (go_simp;exact ⟨rfl,rfl⟩) | (go_simp;rfl)) (b6.at (by have:=hB.size;omega) ?_ rfl);exact bi.cons NH.out Nu (bi.cons hs2.out (aF.below oz.out hB) (bi.cons NG.out (aF.below oD.out hB) (bi.nil)))
 ·intro _ zZ w_ hB hr
  obtain ⟨v38,e38,n38⟩:∃ v,zZ.tmps[38]?=some v∧(Rg.Val.at (b6 (wd.heap.size) [4,z,Gn])).ok v w_:=hr 38 (by decide);obtain ⟨g38,rfl,Nv⟩:=Rg.aj n38;have ef:=Rg.ef zZ;refine Rg.ah rfl (by go_simp;exact ⟨rfl,rfl⟩) ?_;refine (R6.out _ _ _ Nv).mono ?_;rintro e w5 ⟨xX,rfl,wW,hb5⟩;exact ⟨_,rfl,aJ.at wW (by have:=hB.size;omega),hb5⟩
 intro vals wy hB4 hv hne;have n39:(Rg.Val.at (aJ (wd.heap.size) (F))).ok (vals 4) wy:=hv 4 (by decide);simp only [Rg.ay,Rg.fill,Act.put,Nat.reduceAdd];clear hv;obtain ⟨ON,a39,Nk,MG,NM,As,o39⟩:=(Rg.aj n39).view;simp only [As];clear As;have R2:=R.keep hB4;have ⟨c0,c1,f0,f1,_⟩:=R2.box;have hr1:=aF.base (aF.bM o39 R2 (by decide) (.bool ON) (.slice a39 Nk MG)) (show w.heap.size≤wd.heap.size from hw.size);have hr2:Below w.heap.size w ((wy.setCell ⟨w.heap.size+1+1,0,none⟩ (.bool ON)).setCell ⟨w.heap.size+1+1,1,none⟩ (.slice a39 Nk MG)):=wJ (wJ (d_ hw hB4) (by simp <;> omega) _) (by simp <;> omega) _;unfold Rg.aZ Rg.aZ Oper.wp
 go_simp
 go_wp2;exact bodyPost_ret (v:=.agg #[.bool ON,.slice a39 Nk MG]) (by simp [results,Tryz.results154,go_sem, *]) rfl (⟨_,by rw [NM.out],hr1,hr2⟩)
theorem gU (a b x z:Int) (vx vz:Value) (w:World) (bx bz:Nat) (hox:ak w bx vx x) (xZ:ak w bz vz z) (hx:Wh.sz x 1000) (hz:Wh.sz z 1000) (ha1:-1000≤a) (ha2:a≤1000) (hb1:-10000≤b) (hb2:b≤10000) :
  Calls Tryz.prog 157 #[.agg #[.int .i64 a,.int .i64 b],.agg #[.bool (decide (x<0)),vx,.bool (decide (z<0)),vz]] w fun e w'=>∃ sl,e=.returned (.agg #[.bool (decide (Wh.am a b x z<0)),sl])∧ak w' w.heap.size sl (Wh.am a b x z)∧Below w.heap.size w w':=by
 obtain ⟨ax,cx,rfl,-,-⟩:=aF.view hox;obtain ⟨az,cz,rfl,-,-⟩:=aF.view xZ;have m1:=Wh.bB hx hx;have m0:=Wh.bB hz hz;have m2:=Wh.bB m1 hx;have m3:=Wh.bB hx m0;have m4:=Wh.bB m3 (Wh.bc (n:=a) (by omega) (by omega));have m5:=Wh.fm (Wh.aN m2 (show 1000+1000+1000≤4000 by omega)) (Wh.aN m4 (show _≤4000 by omega));have m6:=Wh.bB hz m0;have m7:=Wh.bB m6 (Wh.bc (n:=b) (by omega) (by omega));have m8:=Wh.fm (Wh.aN m5 (show 4000+1≤4100 by omega)) (Wh.aN m7 (show _≤4100 by omega));have m9:=Wh.bB hz m8
 have P0:=fun v W k (h:aF W k v (Wh.a_ (z).natAbs))=>dZ (z) v W k h (Wh.aY.2 (Wh.aN hz (by omega)))
 have P1:=fun v W k (h:aF W k v (Wh.a_ (x).natAbs))=>dZ (x) v W k h (Wh.aY.2 (Wh.aN hx (by omega)))
 have P2:=fun v v' W k k' (h:aF W k v (Wh.a_ (x*x).natAbs)) (h':aF W k' v' (Wh.a_ (x).natAbs))=>dg (x*x) (x) v v' W k k' h h' (Wh.aY.2 (Wh.aN m1 (by omega))) (Wh.aY.2 (Wh.aN hx (by omega)))
 have P3:=fun v v' W k k' (h:aF W k v (Wh.a_ (x).natAbs)) (h':aF W k' v' (Wh.a_ (z*z).natAbs))=>dg (x) (z*z) v v' W k k' h h' (Wh.aY.2 (Wh.aN hx (by omega))) (Wh.aY.2 (Wh.aN m0 (by omega)))
 have P4:=fun v W k (h:aF W k v (Wh.a_ (x*(z*z)).natAbs))=>dk (x*(z*z)) (a) v W k h (Wh.aY.2 (Wh.aN m3 (by omega))) (by omega) (by omega)
 have P5:=fun v v' W k k' (h:aF W k v (Wh.a_ (x*x*x).natAbs)) (h':aF W k' v' (Wh.a_ (x*(z*z)*a).natAbs))=>jG (x*x*x) (x*(z*z)*a) v v' W k k' h h' (Wh.aY.2 (Wh.aN m2 (by omega))) (Wh.aY.2 (Wh.aN m4 (by omega)))
 have P6:=fun v v' W k k' (h:aF W k v (Wh.a_ (z).natAbs)) (h':aF W k' v' (Wh.a_ (z*z).natAbs))=>dg (z) (z*z) v v' W k k' h h' (Wh.aY.2 (Wh.aN hz (by omega))) (Wh.aY.2 (Wh.aN m0 (by omega)))
 have P7:=fun v W k (h:aF W k v (Wh.a_ (z*(z*z)).natAbs))=>dk (z*(z*z)) (b) v W k h (Wh.aY.2 (Wh.aN m6 (by omega))) (by omega) (by omega)
 have P8:=fun v v' W k k' (h:aF W k v (Wh.a_ (x*x*x+x*(z*z)*a).natAbs)) (h':aF W k' v' (Wh.a_ (z*(z*z)*b).natAbs))=>jG (x*x*x+x*(z*z)*a) (z*(z*z)*b) v v' W k k' h h' (Wh.aY.2 (Wh.aN m5 (by omega))) (Wh.aY.2 (Wh.aN m7 (by omega)))
 have P9:=fun v v' W k k' (h:aF W k v (Wh.a_ (z).natAbs)) (h':aF W k' v' (Wh.a_ (x*x*x+x*(z*z)*a+z*(z*z)*b).natAbs))=>dg (z) (x*x*x+x*(z*z)*a+z*(z*z)*b) v v' W k k' h h' (Wh.aY.2 (Wh.aN hz (by omega))) (Wh.aY.2 (Wh.aN m8 (by omega)))
 have PA:=fun v W k (h:aF W k v (Wh.a_ (z*(x*x*x+x*(z*z)*a+z*(z*z)*b)).natAbs))=>dk (z*(x*x*x+x*(z*z)*a+z*(z*z)*b)) (4) v W k h (Wh.aY.2 (Wh.aN m9 (by omega))) (by omega) (by omega)
 have hT:=Wh.l9 a b x z;rw [hT] at PA;clear hT m1 m0 m2 m3 m4 m5 m6 m7 m8 m9;generalize Wh.am a b x z=F at *;generalize GG:x*x*x+x*(z*z)*a+z*(z*z)*b=S2 at *;generalize GF:x*x*x+x*(z*z)*a=S1 at *;generalize Ma:z*(z*z)*b=zb at *;generalize Mb:z*(z*z)=zc at *;generalize MR:x*(z*z)*a=xa at *;generalize MV:x*(z*z)=xz at *;generalize MS:x*x*x=xc at *;generalize GH:x*x=xq at *;generalize GI:z*z=zq at *;generalize hGg:z*S2=zs2 at *;clear GG GF Ma Mb MR MV MS GH GI hGg;replace P0:=wH P0;replace P1:=wH P1;replace P2:=wH P2;replace P3:=wH P3;replace P4:=wH P4;replace P5:=wH P5;replace P6:=wH P6;replace P7:=wH P7;replace P8:=wH P8;replace P9:=wH P9;replace PA:=wH PA;generalize hs1:decide (x<0)=s1 at *;replace hs1:=wH hs1.symm;generalize hs2:decide (z<0)=s2 at *;replace hs2:=wH hs2.symm;replace hox:=wH (show aF _ _ _ _ from hox);replace xZ:=wH (show aF _ _ _ _ from xZ);generalize (Wh.a_ z.natAbs).length=lz,(Wh.a_ x.natAbs).length=lx at *;have b1:=((aH.new w #[.int .i64 a,.int .i64 b] 25).alloc (.cells #[.bool s1,.slice ax lx cx,.bool s2,.slice az lz cz] 127)).alloc (.cells #[.bool false,.slice none 0 0] 125);have b2:=(aH.new (w.alloc (.cells #[.int .i64 a,.int .i64 b] 25)) #[.bool s1,.slice ax lx cx,.bool s2,.slice az lz cz] 127).alloc (.cells #[.bool false,.slice none 0 0] 125);rw [wI] at b2;have b3:=aH.new ((w.alloc (.cells #[.int .i64 a,.int .i64 b] 25)).alloc (.cells #[.bool s1,.slice ax lx cx,.bool s2,.slice az lz cz] 127)) #[.bool false,.slice none 0 0] 125;rw [cr] at b3;have hB:=(((wK w.heap.size w).alloc (wL _) (.cells #[.int .i64 a,.int .i64 b] 25)).alloc (by rw [wI];omega) (.cells #[.bool s1,.slice ax lx cx,.bool s2,.slice az lz cz] 127)).alloc (by rw [cr];omega) (.cells #[.bool false,.slice none 0 0] 125)
 have hz3:(((w.alloc (.cells #[.int .i64 a,.int .i64 b] 25)).alloc (.cells #[.bool s1,.slice ax lx cx,.bool s2,.slice az lz cz] 127)).alloc (.cells #[.bool false,.slice none 0 0] 125)).heap.size=w.heap.size+3:=by rw [wI,cr]
 have AY:=wH (aF.alloc (aF.alloc (aF.alloc hox.out (.cells #[.int .i64 a,.int .i64 b] 25)) (.cells #[.bool s1,.slice ax lx cx,.bool s2,.slice az lz cz] 127)) (.cells #[.bool false,.slice none 0 0] 125));have AZ:=wH (aF.alloc (aF.alloc (aF.alloc xZ.out (.cells #[.int .i64 a,.int .i64 b] 25)) (.cells #[.bool s1,.slice ax lx cx,.bool s2,.slice az lz cz] 127)) (.cells #[.bool false,.slice none 0 0] 125));clear hox xZ;generalize hw3:((w.alloc (.cells #[.int .i64 a,.int .i64 b] 25)).alloc (.cells #[.bool s1,.slice ax lx cx,.bool s2,.slice az lz cz] 127)).alloc (.cells #[.bool false,.slice none 0 0] 125)=w3 at *;have e0:=b2.aP.c0;have e1:=b2.aP.c1;have e2:=b2.aP.c2;have e3:=b2.aP.c3;go_enter Tryz.func157,Tryz.ntmps157
 go_wp2
 go_upto_region 1 with fail
 go_cut [5,6] (fun p q wx=>∃ gx gz,w.heap.size+3≤gx∧w.heap.size+3≤gz∧p=.pointer (some ⟨gx,0,none⟩)∧q=.pointer (some ⟨gz,0,none⟩)∧aH wx gx 125 #[.bool s1,.slice ax lx cx]∧aH wx gz 125 #[.bool s2,.slice az lz cz]∧Below (w.heap.size+3) w3 wx)
 case first=>
  go_region
  all_goals
   go_wp2_with fail
   go_meet
   first
   | exact (nK _ _ hz3 _ _ _ _ _).1
   | exact (nK _ _ hz3 _ _ _ _ _).2
 case rest=>
 obtain ⟨gx,gz,hgx,hgz,rfl,rfl,X,Z,hbx⟩:=hcut;rw [←hz3] at hbx;have ox:=wH (aF.below AY.out hbx);have oz:=wH (aF.below AZ.out hbx);have C:=b1.keep hbx;have R:=b3.keep hbx;have hw:=d_ hB hbx
 have BG:w.heap.size+3≤wc.heap.size:=by have:=hbx.size;omega
 clear hz3;clear b1 b2 b3 e0 e1 e2 e3 hB hbx AY AZ;have z0:=Z.box.c0;have z1:=Z.box.c1
 go_wp2_with (go_at_call 183;(with_reducible refine (P0.out _ _ _ oz.out).mono ?_);rintro e w4 ⟨v3,rfl,ho3,hb4⟩;obtain ⟨a3,k3,rfl,hm3,hv3⟩:=aF.view ho3;clear hm3 hv3 z0 z1)
 have AN:wc.heap.size≤w4.heap.size:=hb4.size;generalize (Wh.a_ zq.natAbs).length=l3 at *;generalize hs3:decide (zq<0)=s3 at *;replace hs3:=wH hs3.symm;have o3:=wH (aF.alloc (show aF _ _ _ _ from ho3) (.cells #[.bool s3,.slice a3 l3 k3] 125));clear ho3;have T:=aH.new w4 #[.bool s3,.slice a3 l3 k3] 125;have hB2:Below wc.heap.size wc (w4.alloc (.cells #[.bool s3,.slice a3 l3 k3] 125)):=hb4.alloc AN (.cells #[.bool s3,.slice a3 l3 k3] 125);have Ff:wc.heap.size≤w4.heap.size:=AN;have IG:gz<wc.heap.size:=Z.lt
 go_upto_region 3 with fail
 generalize w4.alloc (.cells #[.bool s3,.slice a3 l3 k3] 125)=wd at *;replace X:=X.keep hB2;replace Z:=Z.keep hB2;replace C:=C.keep hB2;replace R:=R.keep hB2;replace ox:=wH (aF.below ox.out hB2);replace oz:=wH (aF.below oz.out hB2);replace hw:=d_ hw hB2;have Cy:wc.heap.size≤wd.heap.size:=hB2.size
 replace IG:gz<wd.heap.size:=by omega
 replace BG:w.heap.size+3≤wd.heap.size:=by omega
 clear hB2 hb4;refine Rg.bO 12 [.is (.agg #[.bool s1,.slice ax lx cx]),.at (aJ (wd.heap.size) (xq)),.is (.agg #[.bool s1,.slice ax lx cx]),.at (aJ (wd.heap.size) (xc)),.is (.agg #[.bool s1,.slice ax lx cx]),.is (.agg #[.bool s3,.slice a3 l3 k3]),.at (aJ (wd.heap.size) (xz)),.is (.pointer (some ⟨w.heap.size,0,none⟩)),.is (.int .i64 a),.at (aJ (wd.heap.size) (xa)),.at (aJ (wd.heap.size) (S1)),.new (wd.heap.size) 125 #[.bool false,.slice none 0 0]] (by kernel_rfl) (by kernel_rfl) (by kernel_rfl) ⟨?_,?_,?_,?_,?_,?_,?_,?_,?_,?_,?_,?_,fun h_=>absurd h_ (by decide),trivial⟩ ?_
 ·intro _ zZ w_ hB hr
  have e5:zZ.tmps[5]?=some (.pointer (some ⟨gx,0,none⟩)):=hr 5 (by decide);have k0:=aE hB X.box.c0;have k1:=aE hB X.box.c1;exact Rg.aG rfl (by go_simp)
 ·intro _ zZ w_ hB hr
  have e15:=Rg.c_ (hr 15 (by decide));have ef:=Rg.ef zZ;refine Rg.ah rfl (by go_simp;exact ⟨rfl,rfl⟩) ?_;refine (P1.out _ _ _ (aF.below ox.out hB)).mono ?_;rintro e w5 ⟨xX,rfl,wW,hb5⟩;exact ⟨_,rfl,aJ.at wW (by have:=hB.size;omega),hb5⟩
 ·intro _ zZ w_ hB hr
  have e5:zZ.tmps[5]?=some (.pointer (some ⟨gx,0,none⟩)):=hr 5 (by decide);have k0:=aE hB X.box.c0;have k1:=aE hB X.box.c1;exact Rg.aG rfl (by go_simp)
 ·intro _ zZ w_ hB hr
  obtain ⟨v16,e16,n16⟩:∃ v,zZ.tmps[16]?=some v∧(Rg.Val.at (aJ (wd.heap.size) (xq))).ok v w_:=hr 16 (by decide);obtain ⟨s16,a16,CB,c16,Ap,rfl,o16⟩:=(Rg.aj n16).view;have e17:=Rg.c_ (hr 17 (by decide));have ef:=Rg.ef zZ;refine Rg.ah rfl (by go_simp;exact ⟨rfl,rfl⟩) ?_;obtain rfl:=Ap.out;refine (P2.out _ _ _ _ _ o16 (aF.below ox.out hB)).mono ?_;rintro e w5 ⟨xX,rfl,wW,hb5⟩;exact ⟨_,rfl,aJ.at wW (by have:=hB.size;omega),hb5⟩
 ·intro _ zZ w_ hB hr
  have e5:zZ.tmps[5]?=some (.pointer (some ⟨gx,0,none⟩)):=hr 5 (by decide);have k0:=aE hB X.box.c0;have k1:=aE hB X.box.c1;exact Rg.aG rfl (by go_simp)
 ·intro _ zZ w_ hB hr
  have e7:zZ.tmps[7]?=some (.pointer (some ⟨w4.heap.size,0,none⟩)):=hr 7 (by decide);have k0:=aE hB T.box.c0;have k1:=aE hB T.box.c1;exact Rg.aG rfl (by go_simp)
 ·intro _ zZ w_ hB hr
  have e19:=Rg.c_ (hr 19 (by decide));have e20:=Rg.c_ (hr 20 (by decide));have ef:=Rg.ef zZ;refine Rg.ah rfl (by go_simp;exact ⟨rfl,rfl⟩) ?_;refine (P3.out _ _ _ _ _ (aF.below ox.out hB) (aF.below o3.out hB)).mono ?_;rintro e w5 ⟨xX,rfl,wW,hb5⟩;exact ⟨_,rfl,aJ.at wW (by have:=hB.size;omega),hb5⟩
 ·intro _ zZ w_ hB hr
  have e2:zZ.tmps[2]?=some (.pointer (some ⟨w.heap.size,0,none⟩)):=hr 2 (by decide);exact Rg.aG rfl (by go_simp)
 ·intro _ zZ w_ hB hr
  have e22:=Rg.c_ (hr 22 (by decide));have k0:=aE hB C.box.c0;exact Rg.aG rfl (by go_simp)
 ·intro _ zZ w_ hB hr
  obtain ⟨v21,e21,n21⟩:∃ v,zZ.tmps[21]?=some v∧(Rg.Val.at (aJ (wd.heap.size) (xz))).ok v w_:=hr 21 (by decide);obtain ⟨s21,a21,l21,c21,NA,rfl,o21⟩:=(Rg.aj n21).view;have e23:=Rg.c_ (hr 23 (by decide));have ef:=Rg.ef zZ;refine Rg.ah rfl (by go_simp;exact ⟨rfl,rfl⟩) ?_;obtain rfl:=NA.out;refine (P4.out _ _ _ o21).mono ?_;rintro e w5 ⟨xX,rfl,wW,hb5⟩;exact ⟨_,rfl,aJ.at wW (by have:=hB.size;omega),hb5⟩
 ·intro _ zZ w_ hB hr
  obtain ⟨v18,e18,n18⟩:∃ v,zZ.tmps[18]?=some v∧(Rg.Val.at (aJ (wd.heap.size) (xc))).ok v w_:=hr 18 (by decide);obtain ⟨s18,a18,l18,c18,Ga,rfl,Nr⟩:=(Rg.aj n18).view;obtain ⟨v24,e24,n24⟩:∃ v,zZ.tmps[24]?=some v∧(Rg.Val.at (aJ (wd.heap.size) (xa))).ok v w_:=hr 24 (by decide);obtain ⟨s24,a24,EM,c24,Cw,rfl,HU⟩:=(Rg.aj n24).view;have ef:=Rg.ef zZ;refine Rg.ah rfl (by go_simp;exact ⟨rfl,rfl⟩) ?_;obtain rfl:=Ga.out;obtain rfl:=Cw.out;refine (P5.out _ _ _ _ _ Nr HU).mono ?_;rintro e w5 ⟨xX,rfl,wW,hb5⟩;exact ⟨_,rfl,aJ.at wW (by have:=hB.size;omega),hb5⟩
 ·intro _ zZ w_ hB hr
  exact ⟨by have:=hB.size;omega,rfl,by first | (go_simp;done) | (go_simp;rfl)⟩
 intro vals wz hB hv hne;have n8:(Rg.Val.new (wd.heap.size) 125 #[.bool false,.slice none 0 0]).ok (vals 11) wz:=hv 11 (by decide);have n25:(Rg.Val.at (aJ (wd.heap.size) (S1))).ok (vals 10) wz:=hv 10 (by decide);simp only [Rg.ay,Rg.fill,Act.put,Nat.reduceAdd];clear hv;obtain ⟨g8,GN,xI,o8⟩:=n8;replace o8:aH wz g8 125 #[.bool false,.slice none 0 0]:=o8;obtain ⟨Ip,a25,IR,H6,NC,xU,Jj⟩:=(Rg.aj n25).view;simp only [xI,xU];clear xI xU;have hB2:Below wd.heap.size wd ((wz.setCell ⟨g8,0,none⟩ (.bool Ip)).setCell ⟨g8,1,none⟩ (.slice a25 IR H6)):=wJ (wJ hB GN _) GN _;have U:=aH.set2 o8 (.bool Ip) (.slice a25 IR H6);have oU:=wH (aF.bM Jj o8 (by decide) (.bool Ip) (.slice a25 IR H6));have ⟨c0,c1,f0,f1,_⟩:=o8.box;unfold Rg.aZ Rg.aZ Oper.wp
 go_simp
 clear c0 c1 f0 f1 o8 Jj;generalize ((wz.setCell ⟨g8,0,none⟩ (.bool Ip)).setCell ⟨g8,1,none⟩ (.slice a25 IR H6))=we at *;replace Z:=Z.keep hB2;replace C:=C.keep hB2;replace R:=R.keep hB2;replace T:=T.keep hB2;replace oz:=wH (aF.below oz.out hB2);replace o3:=wH (aF.below o3.out hB2);replace hw:=d_ hw hB2;have Cy:wd.heap.size≤we.heap.size:=hB2.size
 go_upto_region 4 with fail
 clear hB2 hB;refine Rg.bO 8 [.is (.agg #[.bool Ip,.slice a25 IR H6]),.is (.agg #[.bool s2,.slice az lz cz]),.is (.agg #[.bool s3,.slice a3 l3 k3]),.at (aJ (we.heap.size) (zc)),.is (.pointer (some ⟨w.heap.size,1,none⟩)),.is (.int .i64 b),.at (aJ (we.heap.size) (zb)),.at (aJ (we.heap.size) (S2))] (by kernel_rfl) (by kernel_rfl) (by kernel_rfl) ⟨?_,?_,?_,?_,?_,?_,?_,?_,fun h_=>absurd h_ (by decide),trivial⟩ ?_
 ·intro _ zZ w_ hB hr
  have e8:zZ.tmps[8]?=some (.pointer (some ⟨g8,0,none⟩)):=hr 8 (by decide);have k0:=aE hB U.box.c0;have k1:=aE hB U.box.c1;exact Rg.aG rfl (by go_simp)
 ·intro _ zZ w_ hB hr
  have e6:zZ.tmps[6]?=some (.pointer (some ⟨gz,0,none⟩)):=hr 6 (by decide);have k0:=aE hB Z.box.c0;have k1:=aE hB Z.box.c1;exact Rg.aG rfl (by go_simp)
 ·intro _ zZ w_ hB hr
  have e7:zZ.tmps[7]?=some (.pointer (some ⟨w4.heap.size,0,none⟩)):=hr 7 (by decide);have k0:=aE hB T.box.c0;have k1:=aE hB T.box.c1;exact Rg.aG rfl (by go_simp)
 ·intro _ zZ w_ hB hr
  have e27:=Rg.c_ (hr 27 (by decide));have e28:=Rg.c_ (hr 28 (by decide));have ef:=Rg.ef zZ;refine Rg.ah rfl (by go_simp;exact ⟨rfl,rfl⟩) ?_;refine (P6.out _ _ _ _ _ (aF.below oz.out hB) (aF.below o3.out hB)).mono ?_;rintro e w5 ⟨xX,rfl,wW,hb5⟩;exact ⟨_,rfl,aJ.at wW (by have:=hB.size;omega),hb5⟩
 ·intro _ zZ w_ hB hr
  have e2:zZ.tmps[2]?=some (.pointer (some ⟨w.heap.size,0,none⟩)):=hr 2 (by decide);exact Rg.aG rfl (by go_simp)
 ·intro _ zZ w_ hB hr
  have e30:=Rg.c_ (hr 30 (by decide));have k1:=aE hB C.box.c1;exact Rg.aG rfl (by go_simp)
 ·intro _ zZ w_ hB hr
  obtain ⟨v29,e29,n29⟩:∃ v,zZ.tmps[29]?=some v∧(Rg.Val.at (aJ (we.heap.size) (zc))).ok v w_:=hr 29 (by decide);obtain ⟨s29,a29,l29,c29,ND,rfl,o29⟩:=(Rg.aj n29).view;have e31:=Rg.c_ (hr 31 (by decide));have ef:=Rg.ef zZ;refine Rg.ah rfl (by go_simp;exact ⟨rfl,rfl⟩) ?_;obtain rfl:=ND.out;refine (P7.out _ _ _ o29).mono ?_;rintro e w5 ⟨xX,rfl,wW,hb5⟩;exact ⟨_,rfl,aJ.at wW (by have:=hB.size;omega),hb5⟩
 ·intro _ zZ w_ hB hr
  have e26:=Rg.c_ (hr 26 (by decide));obtain ⟨v32,e32,n32⟩:∃ v,zZ.tmps[32]?=some v∧(Rg.Val.at (aJ (we.heap.size) (zb))).ok v w_:=hr 32 (by decide);obtain ⟨s32,a32,l32,c32,Ge,rfl,o32⟩:=(Rg.aj n32).view;have ef:=Rg.ef zZ;refine Rg.ah rfl (by go_simp;exact ⟨rfl,rfl⟩) ?_;obtain rfl:=Ge.out;rw [NC.out];refine (P8.out _ _ _ _ _ (aF.below oU.out hB) o32).mono ?_;rintro e w5 ⟨xX,rfl,wW,hb5⟩;exact ⟨_,rfl,aJ.at wW (by have:=hB.size;omega),hb5⟩
 intro vals wy hB hv hne;have n33:(Rg.Val.at (aJ (we.heap.size) (S2))).ok (vals 7) wy:=hv 7 (by decide);simp only [Rg.ay,Rg.fill,Act.put,Nat.reduceAdd];clear hv;obtain ⟨FL,a33,FI,El,Du,At,Gk⟩:=(Rg.aj n33).view;simp only [At];clear At;have U2:=U.keep hB;have hB2:Below wd.heap.size we ((wy.setCell ⟨g8,0,none⟩ (.bool FL)).setCell ⟨g8,1,none⟩ (.slice a33 FI El)):=wJ (wJ (hB.mono Cy) GN _) GN _;have oS:=wH (aF.bM Gk U2 (by decide) (.bool FL) (.slice a33 FI El));have U3:=aH.set2 U2 (.bool FL) (.slice a33 FI El)
 have hgz9:gz<wd.heap.size∧w.heap.size+1+1<wd.heap.size:=⟨IG,by have:=BG;omega⟩
 have Z5:aH ((wy.setCell ⟨g8,0,none⟩ (.bool FL)).setCell ⟨g8,1,none⟩ (.slice a33 FI El)) gz 125 #[.bool s2,.slice az lz cz]:=((Z.keep hB).other (by omega) _).other (by omega) _;have R5:aH ((wy.setCell ⟨g8,0,none⟩ (.bool FL)).setCell ⟨g8,1,none⟩ (.slice a33 FI El)) (w.heap.size+1+1) 125 #[.bool false,.slice none 0 0]:=((R.keep hB).other (by omega) _).other (by omega) _;have oz5:=wH (aF.bM (aF.below oz.out hB) U2 (by decide) (.bool FL) (.slice a33 FI El));have HP:=hw.trans (hB2.mono (show w.heap.size≤wd.heap.size by omega));have ⟨c0,c1,f0,f1,_⟩:=U2.box;unfold Rg.aZ Rg.aZ Oper.wp
 go_simp
 clear c0 c1 f0 f1 U2;generalize ((wy.setCell ⟨g8,0,none⟩ (.bool FL)).setCell ⟨g8,1,none⟩ (.slice a33 FI El))=wf at *;have y0:=Z5.box.c0;have y1:=Z5.box.c1;have y2:=U3.box.c0;have y3:=U3.box.c1;obtain rfl:=Du.out
 go_wp2_with (first | (go_at_call 185;(with_reducible refine (P9.out _ _ _ _ _ oz5.out oS.out).mono ?_);rintro e w6 ⟨v6,rfl,Fh,hb6⟩;obtain ⟨a6,k6,rfl,Mu,hv6⟩:=aF.view Fh;clear Mu hv6;have yM:=(show aF _ _ _ _ from Fh)) | (go_at_call 186;(with_reducible refine (PA.out _ _ _ yM).mono ?_);rintro e w7 ⟨v7,rfl,AM,wg⟩;obtain ⟨a7,k7,rfl,hm7,hv7⟩:=aF.view AM;clear hm7 hv7;have R7:=(R5.keep hb6).keep wg;(have ⟨c0,c1,f0,f1,_⟩:=R7.box)))
 generalize decide (F<0)=s7,(Wh.a_ F.natAbs).length=l7 at *;have Mj:=HP.trans ((hb6.mono HP.size).trans (wg.mono (Nat.le_trans HP.size hb6.size)));have hr1:=aF.base (aF.bM AM R7 (by decide) (.bool s7) (.slice a7 l7 k7)) (show w.heap.size≤w6.heap.size from Nat.le_trans HP.size hb6.size);have hr2:Below w.heap.size w ((w7.setCell ⟨w.heap.size+1+1,0,none⟩ (.bool s7)).setCell ⟨w.heap.size+1+1,1,none⟩ (.slice a7 l7 k7)):=wJ (wJ Mj (by simp <;> omega) _) (by simp <;> omega) _;exact bodyPost_ret (v:=.agg #[.bool s7,.slice a7 l7 k7]) (by simp [results,Tryz.results157,go_sem, *]) rfl (⟨_,rfl,hr1,hr2⟩)
theorem tq (a b x z:Int) (vx vz:Value) (w:World) (bx bz:Nat) (hox:ak w bx vx x) (xZ:ak w bz vz z) (hx:Wh.sz x 1000) (hz:Wh.sz z 1000) (ha1:-1000≤a) (ha2:a≤1000) (hb1:-10000≤b) (hb2:b≤10000) :
  Calls Tryz.prog 187 #[.agg #[.int .i64 a,.int .i64 b],.agg #[.bool (decide (x<0)),vx,.bool (decide (z<0)),vz]] w fun e w'=>∃ sl,e=.returned (.agg #[.bool (decide (Wh.aw a b x z<0)),sl])∧ak w' w.heap.size sl (Wh.aw a b x z)∧Below w.heap.size w w':=by
 obtain ⟨ax,cx,rfl,-,-⟩:=aF.view hox;obtain ⟨az,cz,rfl,-,-⟩:=aF.view xZ;have haa:-1000000≤a*a∧a*a≤1000000:=M.aL (x:=a) (y:=a) (m:=1000) (n:=1000) (by omega) (by omega) (by omega) (by omega);have mx:=Wh.bB hx hx;have mz:=Wh.bB hz hz;have Nn:=Wh.bB mx mx;have Np:=Wh.bB mx mz;have mt:=Wh.bB Np (Wh.bc (n:=2*a) (by omega) (by omega));have m1:=Wh.lW (Wh.aN Nn (show 1000+1000+(1000+1000)≤4100 by omega)) (Wh.aN mt (show _≤4100 by omega));have n1:=Wh.bB hx hz;have n2:=Wh.bB n1 mz;have n3:=Wh.bB n2 (Wh.bc (n:=8*b) (by omega) (by omega));have m2:=Wh.lW (Wh.aN m1 (show 4100+1≤4200 by omega)) (Wh.aN n3 (show _≤4200 by omega));have Nq:=Wh.bB mz mz;have n4:=Wh.bB Nq (Wh.bc (n:=a*a) (by omega) (by omega))
 have P0:=fun v W k (h:aF W k v (Wh.a_ (x).natAbs))=>dZ (x) v W k h (Wh.aY.2 (Wh.aN hx (by omega)))
 have P1:=fun v W k (h:aF W k v (Wh.a_ (z).natAbs))=>dZ (z) v W k h (Wh.aY.2 (Wh.aN hz (by omega)))
 have P2:=fun v W k (h:aF W k v (Wh.a_ (x*x).natAbs))=>dZ (x*x) v W k h (Wh.aY.2 (Wh.aN mx (by omega)))
 have P3:=fun v v' W k k' (h:aF W k v (Wh.a_ (x*x).natAbs)) (h':aF W k' v' (Wh.a_ (z*z).natAbs))=>dg (x*x) (z*z) v v' W k k' h h' (Wh.aY.2 (Wh.aN mx (by omega))) (Wh.aY.2 (Wh.aN mz (by omega)))
 have P4:=fun v W k (h:aF W k v (Wh.a_ (x*x*(z*z)).natAbs))=>dk (x*x*(z*z)) (2*a) v W k h (Wh.aY.2 (Wh.aN Np (by omega))) (by omega) (by omega)
 have P5:=fun v v' W k k' (h:aF W k v (Wh.a_ (x*x*(x*x)).natAbs)) (h':aF W k' v' (Wh.a_ (x*x*(z*z)*(2*a)).natAbs))=>ke (x*x*(x*x)) (x*x*(z*z)*(2*a)) v v' W k k' h h' (Wh.aY.2 (Wh.aN Nn (by omega))) (Wh.aY.2 (Wh.aN mt (by omega)))
 have P6:=fun v v' W k k' (h:aF W k v (Wh.a_ (x).natAbs)) (h':aF W k' v' (Wh.a_ (z).natAbs))=>dg (x) (z) v v' W k k' h h' (Wh.aY.2 (Wh.aN hx (by omega))) (Wh.aY.2 (Wh.aN hz (by omega)))
 have P7:=fun v v' W k k' (h:aF W k v (Wh.a_ (x*z).natAbs)) (h':aF W k' v' (Wh.a_ (z*z).natAbs))=>dg (x*z) (z*z) v v' W k k' h h' (Wh.aY.2 (Wh.aN n1 (by omega))) (Wh.aY.2 (Wh.aN mz (by omega)))
 have P8:=fun v W k (h:aF W k v (Wh.a_ (x*z*(z*z)).natAbs))=>dk (x*z*(z*z)) (8*b) v W k h (Wh.aY.2 (Wh.aN n2 (by omega))) (by omega) (by omega)
 have P9:=fun v v' W k k' (h:aF W k v (Wh.a_ (x*x*(x*x) - x*x*(z*z)*(2*a)).natAbs)) (h':aF W k' v' (Wh.a_ (x*z*(z*z)*(8*b)).natAbs))=>ke (x*x*(x*x) - x*x*(z*z)*(2*a)) (x*z*(z*z)*(8*b)) v v' W k k' h h' (Wh.aY.2 (Wh.aN m1 (by omega))) (Wh.aY.2 (Wh.aN n3 (by omega)))
 have PA:=fun v W k (h:aF W k v (Wh.a_ (z*z).natAbs))=>dZ (z*z) v W k h (Wh.aY.2 (Wh.aN mz (by omega)))
 have PB:=fun v W k (h:aF W k v (Wh.a_ (z*z*(z*z)).natAbs))=>dk (z*z*(z*z)) (a*a) v W k h (Wh.aY.2 (Wh.aN Nq (by omega))) (by omega) (by omega)
 have PC:=fun v v' W k k' (h:aF W k v (Wh.a_ (x*x*(x*x) - x*x*(z*z)*(2*a) - x*z*(z*z)*(8*b)).natAbs)) (h':aF W k' v' (Wh.a_ (z*z*(z*z)*(a*a)).natAbs))=>jG (x*x*(x*x) - x*x*(z*z)*(2*a) - x*z*(z*z)*(8*b)) (z*z*(z*z)*(a*a)) v v' W k k' h h' (Wh.aY.2 (Wh.aN m2 (by omega))) (Wh.aY.2 (Wh.aN n4 (by omega)))
 have hT:=Wh.nH a b x z;rw [hT] at PC;clear hT mx mz Nn Np mt m1 n1 n2 n3 m2 Nq n4;generalize Wh.aw a b x z=F at *;generalize GG:x*x*(x*x) - x*x*(z*z)*(2*a) - x*z*(z*z)*(8*b)=S2 at *;generalize GF:x*x*(x*x) - x*x*(z*z)*(2*a)=S1 at *;generalize MY:x*z*(z*z)*(8*b)=yb at *;generalize MZ:z*z*(z*z)*(a*a)=za at *;generalize MU:x*x*(z*z)*(2*a)=xt at *;generalize MX:x*z*(z*z)=y2 at *;generalize IC:z*z*(z*z)=zzz at *;generalize IB:x*x*(z*z)=xz2 at *;generalize IA:x*x*(x*x)=xxx at *;generalize MW:x*z=y1 at *;generalize GH:x*x=xq at *;generalize GI:z*z=zq at *;clear GG GF MY MZ MU MX IC IB IA MW GH GI;replace P0:=wH P0;replace P1:=wH P1;replace P2:=wH P2;replace P3:=wH P3;replace P4:=wH P4;replace P5:=wH P5;replace P6:=wH P6;replace P7:=wH P7;replace P8:=wH P8;replace P9:=wH P9;replace PA:=wH PA;replace PB:=wH PB;replace PC:=wH PC;generalize hs1:decide (x<0)=s1 at *;replace hs1:=wH hs1.symm;generalize hs2:decide (z<0)=s2 at *;replace hs2:=wH hs2.symm;replace hox:=wH (show aF _ _ _ _ from hox);replace xZ:=wH (show aF _ _ _ _ from xZ);generalize (Wh.a_ z.natAbs).length=lz,(Wh.a_ x.natAbs).length=lx at *;have b1:=((aH.new w #[.int .i64 a,.int .i64 b] 25).alloc (.cells #[.bool s1,.slice ax lx cx,.bool s2,.slice az lz cz] 127)).alloc (.cells #[.bool false,.slice none 0 0] 125);have b2:=(aH.new (w.alloc (.cells #[.int .i64 a,.int .i64 b] 25)) #[.bool s1,.slice ax lx cx,.bool s2,.slice az lz cz] 127).alloc (.cells #[.bool false,.slice none 0 0] 125);rw [wI] at b2;have b3:=aH.new ((w.alloc (.cells #[.int .i64 a,.int .i64 b] 25)).alloc (.cells #[.bool s1,.slice ax lx cx,.bool s2,.slice az lz cz] 127)) #[.bool false,.slice none 0 0] 125;rw [cr] at b3;have hB:=(((wK w.heap.size w).alloc (wL _) (.cells #[.int .i64 a,.int .i64 b] 25)).alloc (by rw [wI];omega) (.cells #[.bool s1,.slice ax lx cx,.bool s2,.slice az lz cz] 127)).alloc (by rw [cr];omega) (.cells #[.bool false,.slice none 0 0] 125)
 have hz3:(((w.alloc (.cells #[.int .i64 a,.int .i64 b] 25)).alloc (.cells #[.bool s1,.slice ax lx cx,.bool s2,.slice az lz cz] 127)).alloc (.cells #[.bool false,.slice none 0 0] 125)).heap.size=w.heap.size+3:=by rw [wI,cr]
 have AY:=wH (aF.alloc (aF.alloc (aF.alloc hox.out (.cells #[.int .i64 a,.int .i64 b] 25)) (.cells #[.bool s1,.slice ax lx cx,.bool s2,.slice az lz cz] 127)) (.cells #[.bool false,.slice none 0 0] 125));have AZ:=wH (aF.alloc (aF.alloc (aF.alloc xZ.out (.cells #[.int .i64 a,.int .i64 b] 25)) (.cells #[.bool s1,.slice ax lx cx,.bool s2,.slice az lz cz] 127)) (.cells #[.bool false,.slice none 0 0] 125));clear hox xZ;generalize hw3:((w.alloc (.cells #[.int .i64 a,.int .i64 b] 25)).alloc (.cells #[.bool s1,.slice ax lx cx,.bool s2,.slice az lz cz] 127)).alloc (.cells #[.bool false,.slice none 0 0] 125)=w3 at *;have e0:=b2.aP.c0;have e1:=b2.aP.c1;have e2:=b2.aP.c2;have e3:=b2.aP.c3;go_enter Tryz.func187,Tryz.ntmps187
 go_wp2
 go_upto_region 1 with fail
 go_cut [5,6] (fun p q wx=>∃ gx gz,w.heap.size+3≤gx∧w.heap.size+3≤gz∧p=.pointer (some ⟨gx,0,none⟩)∧q=.pointer (some ⟨gz,0,none⟩)∧aH wx gx 125 #[.bool s1,.slice ax lx cx]∧aH wx gz 125 #[.bool s2,.slice az lz cz]∧Below (w.heap.size+3) w3 wx)
 case first=>
  go_region
  all_goals
   go_wp2_with fail
   go_meet
   first
   | exact (nK _ _ hz3 _ _ _ _ _).1
   | exact (nK _ _ hz3 _ _ _ _ _).2
 case rest=>
 obtain ⟨gx,gz,hgx,hgz,rfl,rfl,X,Z,hbx⟩:=hcut;rw [←hz3] at hbx;have ox:=wH (aF.below AY.out hbx);have oz:=wH (aF.below AZ.out hbx);have C:=b1.keep hbx;have R:=b3.keep hbx;have hw:=d_ hB hbx
 have BG:w.heap.size+3≤wc.heap.size:=by have:=hbx.size;omega
 clear hz3;clear b1 b2 b3 e0 e1 e2 e3 hB hbx AY AZ
 go_upto_region 2 with fail
 refine Rg.bO 6 [.is (.agg #[.bool s1,.slice ax lx cx]),.at (aJ (wc.heap.size) (xq)),.is (.agg #[.bool s2,.slice az lz cz]),.at (aJ (wc.heap.size) (zq)),.new (wc.heap.size) 125 #[.bool false,.slice none 0 0],.new (wc.heap.size) 125 #[.bool false,.slice none 0 0]] (by kernel_rfl) (by kernel_rfl) (by kernel_rfl) ⟨?_,?_,?_,?_,?_,?_,fun h_=>absurd h_ (by decide),fun h_=>absurd h_ (by decide),trivial⟩ ?_
 ·intro _ zZ w_ hB hr
  have e5:zZ.tmps[5]?=some (.pointer (some ⟨gx,0,none⟩)):=hr 5 (by decide);have k0:=aE hB X.box.c0;have k1:=aE hB X.box.c1;exact Rg.aG rfl (by go_simp)
 ·intro _ zZ w_ hB hr
  have e14:=Rg.c_ (hr 14 (by decide));have ef:=Rg.ef zZ;refine Rg.ah rfl (by go_simp;exact ⟨rfl,rfl⟩) ?_;refine (P0.out _ _ _ (aF.below ox.out hB)).mono ?_;rintro e w5 ⟨xX,rfl,wW,hb5⟩;exact ⟨_,rfl,aJ.at wW (by have:=hB.size;omega),hb5⟩
 ·intro _ zZ w_ hB hr
  have e6:zZ.tmps[6]?=some (.pointer (some ⟨gz,0,none⟩)):=hr 6 (by decide);have k0:=aE hB Z.box.c0;have k1:=aE hB Z.box.c1;exact Rg.aG rfl (by go_simp)
 ·intro _ zZ w_ hB hr
  have e16:=Rg.c_ (hr 16 (by decide));have ef:=Rg.ef zZ;refine Rg.ah rfl (by go_simp;exact ⟨rfl,rfl⟩) ?_;refine (P1.out _ _ _ (aF.below oz.out hB)).mono ?_;rintro e w5 ⟨xX,rfl,wW,hb5⟩;exact ⟨_,rfl,aJ.at wW (by have:=hB.size;omega),hb5⟩
 ·intro _ zZ w_ hB hr
  exact ⟨by have:=hB.size;omega,rfl,by first | (go_simp;done) | (go_simp;rfl)⟩
 ·intro _ zZ w_ hB hr
  exact ⟨by have:=hB.size;omega,rfl,by first | (go_simp;done) | (go_simp;rfl)⟩
 intro vals wz hB hv hne;have n7:(Rg.Val.new (wc.heap.size) 125 #[.bool false,.slice none 0 0]).ok (vals 4) wz:=hv 4 (by decide);have n8:(Rg.Val.new (wc.heap.size) 125 #[.bool false,.slice none 0 0]).ok (vals 5) wz:=hv 5 (by decide);have n15:(Rg.Val.at (aJ (wc.heap.size) (xq))).ok (vals 1) wz:=hv 1 (by decide);have n17:(Rg.Val.at (aJ (wc.heap.size) (zq))).ok (vals 3) wz:=hv 3 (by decide);simp only [Rg.ay,Rg.fill,Act.put,Nat.reduceAdd];clear hv;have Gq:=hne 4 5 (by decide) (by decide) (by decide) rfl rfl;obtain ⟨g7,Ff,As,o7⟩:=n7;replace o7:aH wz g7 125 #[.bool false,.slice none 0 0]:=o7;obtain ⟨g8,GN,DJ,o8⟩:=n8;replace o8:aH wz g8 125 #[.bool false,.slice none 0 0]:=o8;obtain ⟨s15,DX,Dz,c15,FG,v_1,Fk⟩:=(Rg.aj n15).view;obtain ⟨EB,a17,D1,c17,Dr,Cd,Ji⟩:=(Rg.aj n17).view;rw [As,DJ] at Gq
 have Er:g7≠g8:=fun e=>Gq (by rw [e])
 simp only [As,DJ,v_1,Cd];clear As DJ v_1 Cd;have GD:=Er.symm;have hB2:Below wc.heap.size wc ((((wz.setCell ⟨g7,0,none⟩ (.bool s15)).setCell ⟨g7,1,none⟩ (.slice DX Dz c15)).setCell ⟨g8,0,none⟩ (.bool EB)).setCell ⟨g8,1,none⟩ (.slice a17 D1 c17)):=wJ (wJ (wJ (wJ hB Ff _) Ff _) GN _) GN _;have V8:aH ((wz.setCell ⟨g7,0,none⟩ (.bool s15)).setCell ⟨g7,1,none⟩ (.slice DX Dz c15)) g8 125 #[.bool false,.slice none 0 0]:=(o8.other GD _).other GD _;have U8:=aH.set2 V8 (.bool EB) (.slice a17 D1 c17);have U7:aH ((((wz.setCell ⟨g7,0,none⟩ (.bool s15)).setCell ⟨g7,1,none⟩ (.slice DX Dz c15)).setCell ⟨g8,0,none⟩ (.bool EB)).setCell ⟨g8,1,none⟩ (.slice a17 D1 c17)) g7 125 #[.bool s15,.slice DX Dz c15]:=((aH.set2 o7 (.bool s15) (.slice DX Dz c15)).other Er _).other Er _;have oq:=wH (aF.bM (aF.bM Fk o7 (by decide) (.bool s15) (.slice DX Dz c15)) V8 (by decide) (.bool EB) (.slice a17 D1 c17));have or:=wH (aF.bM (aF.bM Ji o7 (by decide) (.bool s15) (.slice DX Dz c15)) V8 (by decide) (.bool EB) (.slice a17 D1 c17));have ⟨c0,c1,f0,f1,_⟩:=o7.box;have ⟨c2,c3,f2,f3,_⟩:=o8.box;unfold Rg.aZ Rg.aZ Rg.aZ Oper.wp
 go_simp
 clear c0 c1 f0 f1 c2 c3 f2 f3 o7 o8 Fk Ji V8 Er GD Gq;generalize ((((wz.setCell ⟨g7,0,none⟩ (.bool s15)).setCell ⟨g7,1,none⟩ (.slice DX Dz c15)).setCell ⟨g8,0,none⟩ (.bool EB)).setCell ⟨g8,1,none⟩ (.slice a17 D1 c17))=wd at *;replace X:=X.keep hB2;replace Z:=Z.keep hB2;replace C:=C.keep hB2;replace R:=R.keep hB2;replace ox:=wH (aF.below ox.out hB2);replace oz:=wH (aF.below oz.out hB2);have hgd:g8<wd.heap.size:=U8.lt;replace hw:=d_ hw hB2;have Cy:wc.heap.size≤wd.heap.size:=hB2.size;clear hB2 hB
 go_upto_region 3 with fail
 refine Rg.bO 11 [.is (.agg #[.bool s15,.slice DX Dz c15]),.at (aJ (wd.heap.size) (xxx)),.is (.agg #[.bool s15,.slice DX Dz c15]),.is (.agg #[.bool EB,.slice a17 D1 c17]),.at (aJ (wd.heap.size) (xz2)),.is (.pointer (some ⟨w.heap.size,0,none⟩)),.is (.int .i64 a),.is (.int .i64 (2*a)),.at (aJ (wd.heap.size) (xt)),.at (aJ (wd.heap.size) (S1)),.new (wd.heap.size) 125 #[.bool false,.slice none 0 0]] (by kernel_rfl) (by kernel_rfl) (by kernel_rfl) ⟨?_,?_,?_,?_,?_,?_,?_,?_,?_,?_,?_,fun h_=>absurd h_ (by decide),trivial⟩ ?_
 ·intro _ zZ w_ hB hr
  have e7:zZ.tmps[7]?=some (.pointer (some ⟨g7,0,none⟩)):=hr 7 (by decide);have k0:=aE hB U7.box.c0;have k1:=aE hB U7.box.c1;exact Rg.aG rfl (by go_simp)
 ·intro _ zZ w_ hB hr
  have e18:=Rg.c_ (hr 18 (by decide));have ef:=Rg.ef zZ;refine Rg.ah rfl (by go_simp;exact ⟨rfl,rfl⟩) ?_;rw [FG.out];refine (P2.out _ _ _ (aF.below oq.out hB)).mono ?_;rintro e w5 ⟨xX,rfl,wW,hb5⟩;exact ⟨_,rfl,aJ.at wW (by have:=hB.size;omega),hb5⟩
 ·intro _ zZ w_ hB hr
  have e7:zZ.tmps[7]?=some (.pointer (some ⟨g7,0,none⟩)):=hr 7 (by decide);have k0:=aE hB U7.box.c0;have k1:=aE hB U7.box.c1;exact Rg.aG rfl (by go_simp)
 ·intro _ zZ w_ hB hr
  have e8:zZ.tmps[8]?=some (.pointer (some ⟨g8,0,none⟩)):=hr 8 (by decide);have k0:=aE hB U8.box.c0;have k1:=aE hB U8.box.c1;exact Rg.aG rfl (by go_simp)
 ·intro _ zZ w_ hB hr
  have e20:=Rg.c_ (hr 20 (by decide));have e21:=Rg.c_ (hr 21 (by decide));have ef:=Rg.ef zZ;refine Rg.ah rfl (by go_simp;exact ⟨rfl,rfl⟩) ?_;rw [FG.out];rw [Dr.out];refine (P3.out _ _ _ _ _ (aF.below oq.out hB) (aF.below or.out hB)).mono ?_;rintro e w5 ⟨xX,rfl,wW,hb5⟩;exact ⟨_,rfl,aJ.at wW (by have:=hB.size;omega),hb5⟩
 ·intro _ zZ w_ hB hr
  have e2:zZ.tmps[2]?=some (.pointer (some ⟨w.heap.size,0,none⟩)):=hr 2 (by decide);exact Rg.aG rfl (by go_simp)
 ·intro _ zZ w_ hB hr
  have e23:=Rg.c_ (hr 23 (by decide));have k0:=aE hB C.box.c0;exact Rg.aG rfl (by go_simp)
 ·intro _ zZ w_ hB hr
  have e24:=Rg.c_ (hr 24 (by decide));have ec:=Rg.ec zZ;exact Rg.aG rfl (by go_simp <;> exact Rg.wo (by omega))
 ·intro _ zZ w_ hB hr
  obtain ⟨v22,e22,n22⟩:∃ v,zZ.tmps[22]?=some v∧(Rg.Val.at (aJ (wd.heap.size) (xz2))).ok v w_:=hr 22 (by decide);obtain ⟨s22,a22,l22,c22,NB,rfl,o22⟩:=(Rg.aj n22).view;have e25:=Rg.c_ (hr 25 (by decide));have ef:=Rg.ef zZ;refine Rg.ah rfl (by go_simp;exact ⟨rfl,rfl⟩) ?_;obtain rfl:=NB.out;refine (P4.out _ _ _ o22).mono ?_;rintro e w5 ⟨xX,rfl,wW,hb5⟩;exact ⟨_,rfl,aJ.at wW (by have:=hB.size;omega),hb5⟩
 ·intro _ zZ w_ hB hr
  obtain ⟨v19,e19,n19⟩:∃ v,zZ.tmps[19]?=some v∧(Rg.Val.at (aJ (wd.heap.size) (xxx))).ok v w_:=hr 19 (by decide);obtain ⟨C0,DY,Cc,c19,Ar,rfl,HS⟩:=(Rg.aj n19).view;obtain ⟨v26,e26,n26⟩:∃ v,zZ.tmps[26]?=some v∧(Rg.Val.at (aJ (wd.heap.size) (xt))).ok v w_:=hr 26 (by decide);obtain ⟨s26,a26,l26,c26,Gc,rfl,Ns⟩:=(Rg.aj n26).view;have ef:=Rg.ef zZ;refine Rg.ah rfl (by go_simp;exact ⟨rfl,rfl⟩) ?_;obtain rfl:=Ar.out;obtain rfl:=Gc.out;refine (P5.out _ _ _ _ _ HS Ns).mono ?_;rintro e w5 ⟨xX,rfl,wW,hb5⟩;exact ⟨_,rfl,aJ.at wW (by have:=hB.size;omega),hb5⟩
 ·intro _ zZ w_ hB hr
  exact ⟨by have:=hB.size;omega,rfl,by first | (go_simp;done) | (go_simp;rfl)⟩
 intro vals wz hB hv hne;have n9:(Rg.Val.new (wd.heap.size) 125 #[.bool false,.slice none 0 0]).ok (vals 10) wz:=hv 10 (by decide);have n27:(Rg.Val.at (aJ (wd.heap.size) (S1))).ok (vals 9) wz:=hv 9 (by decide);simp only [Rg.ay,Rg.fill,Act.put,Nat.reduceAdd];clear hv;obtain ⟨g9,HM,xU,o9⟩:=n9;replace o9:aH wz g9 125 #[.bool false,.slice none 0 0]:=o9;obtain ⟨Gx,a27,Gh,F9,Gd,yp,Jk⟩:=(Rg.aj n27).view;simp only [xU,yp];clear xU yp;have hB2:Below wd.heap.size wd ((wz.setCell ⟨g9,0,none⟩ (.bool Gx)).setCell ⟨g9,1,none⟩ (.slice a27 Gh F9)):=wJ (wJ hB HM _) HM _;have U:=aH.set2 o9 (.bool Gx) (.slice a27 Gh F9);have oU:=wH (aF.bM Jk o9 (by decide) (.bool Gx) (.slice a27 Gh F9));have ⟨c0,c1,f0,f1,_⟩:=o9.box;unfold Rg.aZ Rg.aZ Oper.wp
 go_simp
 clear c0 c1 f0 f1 o9 Jk;generalize ((wz.setCell ⟨g9,0,none⟩ (.bool Gx)).setCell ⟨g9,1,none⟩ (.slice a27 Gh F9))=we at *;replace X:=X.keep hB2;replace Z:=Z.keep hB2;replace C:=C.keep hB2;replace R:=R.keep hB2;replace U8:=U8.keep hB2;replace ox:=wH (aF.below ox.out hB2);replace oz:=wH (aF.below oz.out hB2);replace or:=wH (aF.below or.out hB2);replace hw:=d_ hw hB2;have Cy:wd.heap.size≤we.heap.size:=hB2.size
 go_upto_region 4 with fail
 clear hB2 hB;refine Rg.bO 11 [.is (.agg #[.bool Gx,.slice a27 Gh F9]),.is (.agg #[.bool s1,.slice ax lx cx]),.is (.agg #[.bool s2,.slice az lz cz]),.at (aJ (we.heap.size) (y1)),.is (.agg #[.bool EB,.slice a17 D1 c17]),.at (aJ (we.heap.size) (y2)),.is (.pointer (some ⟨w.heap.size,1,none⟩)),.is (.int .i64 b),.is (.int .i64 (8*b)),.at (aJ (we.heap.size) (yb)),.at (aJ (we.heap.size) (S2))] (by kernel_rfl) (by kernel_rfl) (by kernel_rfl) ⟨?_,?_,?_,?_,?_,?_,?_,?_,?_,?_,?_,fun h_=>absurd h_ (by decide),trivial⟩ ?_
 ·intro _ zZ w_ hB hr
  have e9:zZ.tmps[9]?=some (.pointer (some ⟨g9,0,none⟩)):=hr 9 (by decide);have k0:=aE hB U.box.c0;have k1:=aE hB U.box.c1;exact Rg.aG rfl (by go_simp)
 ·intro _ zZ w_ hB hr
  have e5:zZ.tmps[5]?=some (.pointer (some ⟨gx,0,none⟩)):=hr 5 (by decide);have k0:=aE hB X.box.c0;have k1:=aE hB X.box.c1;exact Rg.aG rfl (by go_simp)
 ·intro _ zZ w_ hB hr
  have e6:zZ.tmps[6]?=some (.pointer (some ⟨gz,0,none⟩)):=hr 6 (by decide);have k0:=aE hB Z.box.c0;have k1:=aE hB Z.box.c1;exact Rg.aG rfl (by go_simp)
 ·intro _ zZ w_ hB hr
  have e29:=Rg.c_ (hr 29 (by decide));have e30:=Rg.c_ (hr 30 (by decide));have ef:=Rg.ef zZ;refine Rg.ah rfl (by go_simp;exact ⟨rfl,rfl⟩) ?_;refine (P6.out _ _ _ _ _ (aF.below ox.out hB) (aF.below oz.out hB)).mono ?_;rintro e w5 ⟨xX,rfl,wW,hb5⟩;exact ⟨_,rfl,aJ.at wW (by have:=hB.size;omega),hb5⟩
 ·intro _ zZ w_ hB hr
  have e8:zZ.tmps[8]?=some (.pointer (some ⟨g8,0,none⟩)):=hr 8 (by decide);have k0:=aE hB U8.box.c0;have k1:=aE hB U8.box.c1;exact Rg.aG rfl (by go_simp)
 ·intro _ zZ w_ hB hr
  obtain ⟨v31,e31,n31⟩:∃ v,zZ.tmps[31]?=some v∧(Rg.Val.at (aJ (we.heap.size) (y1))).ok v w_:=hr 31 (by decide);obtain ⟨s31,a31,l31,c31,NF,rfl,Nt⟩:=(Rg.aj n31).view;have e32:=Rg.c_ (hr 32 (by decide));have ef:=Rg.ef zZ;refine Rg.ah rfl (by go_simp;exact ⟨rfl,rfl⟩) ?_;obtain rfl:=NF.out;rw [Dr.out];refine (P7.out _ _ _ _ _ Nt (aF.below or.out hB)).mono ?_;rintro e w5 ⟨xX,rfl,wW,hb5⟩;exact ⟨_,rfl,aJ.at wW (by have:=hB.size;omega),hb5⟩
 ·intro _ zZ w_ hB hr
  have e2:zZ.tmps[2]?=some (.pointer (some ⟨w.heap.size,0,none⟩)):=hr 2 (by decide);exact Rg.aG rfl (by go_simp)
 ·intro _ zZ w_ hB hr
  have e34:=Rg.c_ (hr 34 (by decide));have k1:=aE hB C.box.c1;exact Rg.aG rfl (by go_simp)
 ·intro _ zZ w_ hB hr
  have e35:=Rg.c_ (hr 35 (by decide));have ec:=Rg.ec zZ;exact Rg.aG rfl (by go_simp <;> exact Rg.wo (by omega))
 ·intro _ zZ w_ hB hr
  obtain ⟨v33,e33,n33⟩:∃ v,zZ.tmps[33]?=some v∧(Rg.Val.at (aJ (we.heap.size) (y2))).ok v w_:=hr 33 (by decide);obtain ⟨FL,a33,FI,El,Du,rfl,Gk⟩:=(Rg.aj n33).view;have e36:=Rg.c_ (hr 36 (by decide));have ef:=Rg.ef zZ;refine Rg.ah rfl (by go_simp;exact ⟨rfl,rfl⟩) ?_;obtain rfl:=Du.out;refine (P8.out _ _ _ Gk).mono ?_;rintro e w5 ⟨xX,rfl,wW,hb5⟩;exact ⟨_,rfl,aJ.at wW (by have:=hB.size;omega),hb5⟩
 ·intro _ zZ w_ hB hr
  have e28:=Rg.c_ (hr 28 (by decide));obtain ⟨v37,e37,n37⟩:∃ v,zZ.tmps[37]?=some v∧(Rg.Val.at (aJ (we.heap.size) (yb))).ok v w_:=hr 37 (by decide);obtain ⟨s37,a37,l37,c37,NJ,rfl,o37⟩:=(Rg.aj n37).view;have ef:=Rg.ef zZ;refine Rg.ah rfl (by go_simp;exact ⟨rfl,rfl⟩) ?_;obtain rfl:=NJ.out;rw [Gd.out];refine (P9.out _ _ _ _ _ (aF.below oU.out hB) o37).mono ?_;rintro e w5 ⟨xX,rfl,wW,hb5⟩;exact ⟨_,rfl,aJ.at wW (by have:=hB.size;omega),hb5⟩
 intro vals wy hB hv hne;have n38:(Rg.Val.at (aJ (we.heap.size) (S2))).ok (vals 10) wy:=hv 10 (by decide);simp only [Rg.ay,Rg.fill,Act.put,Nat.reduceAdd];clear hv;obtain ⟨FM,a38,FJ,Em,NK,xU,Nv⟩:=(Rg.aj n38).view;simp only [xU];clear xU;have U2:=U.keep hB;have hB2:Below wd.heap.size we ((wy.setCell ⟨g9,0,none⟩ (.bool FM)).setCell ⟨g9,1,none⟩ (.slice a38 FJ Em)):=wJ (wJ (hB.mono Cy) HM _) HM _;have oS:=wH (aF.bM Nv U2 (by decide) (.bool FM) (.slice a38 FJ Em));have U3:=aH.set2 U2 (.bool FM) (.slice a38 FJ Em)
 have hq8:g8<wd.heap.size∧w.heap.size+1+1<wd.heap.size:=⟨hgd,by omega⟩
 have hC9:w.heap.size<wd.heap.size:=by omega
 have C5:aH ((wy.setCell ⟨g9,0,none⟩ (.bool FM)).setCell ⟨g9,1,none⟩ (.slice a38 FJ Em)) w.heap.size 25 #[.int .i64 a,.int .i64 b]:=((C.keep hB).other (by omega) _).other (by omega) _;have R5:aH ((wy.setCell ⟨g9,0,none⟩ (.bool FM)).setCell ⟨g9,1,none⟩ (.slice a38 FJ Em)) (w.heap.size+1+1) 125 #[.bool false,.slice none 0 0]:=((R.keep hB).other (by omega) _).other (by omega) _;have Q5:aH ((wy.setCell ⟨g9,0,none⟩ (.bool FM)).setCell ⟨g9,1,none⟩ (.slice a38 FJ Em)) g8 125 #[.bool EB,.slice a17 D1 c17]:=((U8.keep hB).other (by omega) _).other (by omega) _;have oq5:=wH (aF.bM (aF.below or.out hB) U2 (by decide) (.bool FM) (.slice a38 FJ Em));have HP:=hw.trans (hB2.mono (show w.heap.size≤wd.heap.size by omega));have ⟨c0,c1,f0,f1,_⟩:=U2.box;unfold Rg.aZ Rg.aZ Oper.wp
 go_simp
 clear c0 c1 f0 f1 U2 hB2 hB;generalize ((wy.setCell ⟨g9,0,none⟩ (.bool FM)).setCell ⟨g9,1,none⟩ (.slice a38 FJ Em))=wf at *
 go_upto_region 5 with fail
 refine Rg.bO 10 [.is (.agg #[.bool FM,.slice a38 FJ Em]),.is (.agg #[.bool EB,.slice a17 D1 c17]),.at (aJ (wf.heap.size) (zzz)),.is (.pointer (some ⟨w.heap.size,0,none⟩)),.is (.int .i64 a),.is (.pointer (some ⟨w.heap.size,0,none⟩)),.is (.int .i64 a),.is (.int .i64 (a*a)),.at (aJ (wf.heap.size) (za)),.at (aJ (wf.heap.size) (F))] (by kernel_rfl) (by kernel_rfl) (by kernel_rfl) ⟨?_,?_,?_,?_,?_,?_,?_,?_,?_,?_,fun h_=>absurd h_ (by decide),trivial⟩ ?_
 ·intro _ zZ w_ hB hr
  have e9:zZ.tmps[9]?=some (.pointer (some ⟨g9,0,none⟩)):=hr 9 (by decide);have k0:=aE hB U3.box.c0;have k1:=aE hB U3.box.c1;exact Rg.aG rfl (by go_simp)
 ·intro _ zZ w_ hB hr
  have e8:zZ.tmps[8]?=some (.pointer (some ⟨g8,0,none⟩)):=hr 8 (by decide);have k0:=aE hB Q5.box.c0;have k1:=aE hB Q5.box.c1;exact Rg.aG rfl (by go_simp)
 ·intro _ zZ w_ hB hr
  have e40:=Rg.c_ (hr 40 (by decide));have ef:=Rg.ef zZ;refine Rg.ah rfl (by go_simp;exact ⟨rfl,rfl⟩) ?_;rw [Dr.out];refine (PA.out _ _ _ (aF.below oq5.out hB)).mono ?_;rintro e w5 ⟨xX,rfl,wW,hb5⟩;exact ⟨_,rfl,aJ.at wW (by have:=hB.size;omega),hb5⟩
 ·intro _ zZ w_ hB hr
  have e2:zZ.tmps[2]?=some (.pointer (some ⟨w.heap.size,0,none⟩)):=hr 2 (by decide);exact Rg.aG rfl (by go_simp)
 ·intro _ zZ w_ hB hr
  have e42:=Rg.c_ (hr 42 (by decide));have k0:=aE hB C5.box.c0;exact Rg.aG rfl (by go_simp)
 ·intro _ zZ w_ hB hr
  have e2:zZ.tmps[2]?=some (.pointer (some ⟨w.heap.size,0,none⟩)):=hr 2 (by decide);exact Rg.aG rfl (by go_simp)
 ·intro _ zZ w_ hB hr
  have e44:=Rg.c_ (hr 44 (by decide));have k0:=aE hB C5.box.c0;exact Rg.aG rfl (by go_simp)
 ·intro _ zZ w_ hB hr
  have e43:=Rg.c_ (hr 43 (by decide));have e45:=Rg.c_ (hr 45 (by decide));exact Rg.aG rfl (by go_simp <;> exact Rg.wo (by omega))
 ·intro _ zZ w_ hB hr
  obtain ⟨v41,e41,n41⟩:∃ v,zZ.tmps[41]?=some v∧(Rg.Val.at (aJ (wf.heap.size) (zzz))).ok v w_:=hr 41 (by decide);obtain ⟨zv,a41,zu,zp,Cx,rfl,Gl⟩:=(Rg.aj n41).view;have e46:=Rg.c_ (hr 46 (by decide));have ef:=Rg.ef zZ;refine Rg.ah rfl (by go_simp;exact ⟨rfl,rfl⟩) ?_;obtain rfl:=Cx.out;refine (PB.out _ _ _ Gl).mono ?_;rintro e w5 ⟨xX,rfl,wW,hb5⟩;exact ⟨_,rfl,aJ.at wW (by have:=hB.size;omega),hb5⟩
 ·intro _ zZ w_ hB hr
  have e39:=Rg.c_ (hr 39 (by decide));obtain ⟨v47,e47,n47⟩:∃ v,zZ.tmps[47]?=some v∧(Rg.Val.at (aJ (wf.heap.size) (za))).ok v w_:=hr 47 (by decide);obtain ⟨s47,a47,l47,c47,NO,rfl,Nw⟩:=(Rg.aj n47).view;have ef:=Rg.ef zZ;refine Rg.ah rfl (by go_simp;exact ⟨rfl,rfl⟩) ?_;obtain rfl:=NO.out;rw [NK.out];refine (PC.out _ _ _ _ _ (aF.below oS.out hB) Nw).mono ?_;rintro e w5 ⟨xX,rfl,wW,hb5⟩;exact ⟨_,rfl,aJ.at wW (by have:=hB.size;omega),hb5⟩
 intro vals wv H_ hv hne;have n48:(Rg.Val.at (aJ (wf.heap.size) (F))).ok (vals 9) wv:=hv 9 (by decide);simp only [Rg.ay,Rg.fill,Act.put,Nat.reduceAdd];clear hv;obtain ⟨Iq,a48,IU,H7,Gf,yp,Nx⟩:=(Rg.aj n48).view;simp only [yp];clear yp;replace R:=R5;replace hw:=HP;have R2:=R.keep H_;have ⟨c0,c1,f0,f1,_⟩:=R2.box;have hr1:=aF.base (aF.bM Nx R2 (by decide) (.bool Iq) (.slice a48 IU H7)) (show w.heap.size≤wf.heap.size from hw.size);have hr2:Below w.heap.size w ((wv.setCell ⟨w.heap.size+1+1,0,none⟩ (.bool Iq)).setCell ⟨w.heap.size+1+1,1,none⟩ (.slice a48 IU H7)):=wJ (wJ (d_ hw H_) (by simp <;> omega) _) (by simp <;> omega) _;unfold Rg.aZ Rg.aZ Oper.wp
 go_simp
 go_wp2;exact bodyPost_ret (v:=.agg #[.bool Iq,.slice a48 IU H7]) (by simp [results,Tryz.results187,go_sem, *]) rfl (⟨_,by rw [Gf.out],hr1,hr2⟩)
end
end Go.Proofs.YtggekfbfechonaaGreat
