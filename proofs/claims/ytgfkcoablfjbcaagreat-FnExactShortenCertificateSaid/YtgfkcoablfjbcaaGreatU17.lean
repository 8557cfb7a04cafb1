/-
  Joined texts: contracts and plain lemmas.
-/
import Derived.Test.YtgfkcoablfjbcaaGreatU1
import Derived.Test.YtgfkcoablfjbcaaGreatU16
import Derived.Test.YtgfkcoablfjbcaaGreatU15
import Derived.Test.YtgfkcoablfjbcaaGreatU13
import Derived.Test.YtgfkcoablfjbcaaGreatU8
import Derived.Lib.SliceRun
import Derived.Deep.RegionLaw
import Derived.Shelf.RegionOpenPlain
set_option linter.unusedSimpArgs false
set_option linter.unusedVariables false
set_option maxRecDepth 100000
set_option maxHeartbeats 8000000
namespace Go.Proofs.YtgfkcoablfjbcaaGreat
section
open Go.RowKit Go.Shelf
theorem aH.kC {α:Type} {E:Rw.Enc α} {w w':World} {g base:Nat} {T:TypeId} {xs:Array Value} {v:Value} {ps:List α} (hv:aH w g T xs) (ho:Rw.Own E w base v ps) (hg:w.grownBy w' v.ownBlock) (hT:T≠E.t):aH w' g T xs:=by
 refine (hg.block g hv.lt fun e=>?_).trans hv
 rcases ho.2 with ⟨rfl,-⟩ | ⟨g',cap,cur,rfl,-,hh,-⟩
 ·simp [Value.ownBlock] at e
 simp only [Value.ownBlock,Option.some.injEq] at e;subst e;unfold aH at hv;rw [hv] at hh
 injection hh with hh
 injection hh with _ h2
 exact hT h2
theorem Rw.From.keep {α:Type} {E:Rw.Enc α} {w w':World} {H:Nat} {ys:List α} (h:Rw.From E w (some ⟨H,0,none⟩) ys) (hH:H<w.heap.size) (hb:Below w.heap.size w w'):Rw.From E w' (some ⟨H,0,none⟩) ys:=by
 intro j u hu;obtain ⟨ad,h1,h2⟩:=h j u hu;obtain rfl:=Option.some.inj h1
 have hblk:((⟨H,0,none⟩:Addr).add j).block=H:=by unfold Addr.add;split <;> rfl
 exact ⟨_,rfl,(hb.cell (p:=(⟨H,0,none⟩:Addr).add j) (by rw [hblk];exact hH)).trans h2⟩
structure DO (W0:World) (ps:List Pt) (p:Pt) (T:TypeId) (ret:Value) (zs us:Array Value) (l:Nat→Bool) (v:Nat→Value) (w:World):Prop where
 B:Below W0.heap.size W0 w
 c:l 2=true→l 5=false→Rw.Own yU w W0.heap.size (v 2) ps
 t:l 4=true→l 5=false→∃ H,v 4=.slice (some ⟨H,0,none⟩) 1 1∧H<w.heap.size∧Rw.From yU w (some ⟨H,0,none⟩) [p]
 a:l 5=true→l 6=false→Rw.Own yU w W0.heap.size (v 5) (ps ++ [p])
 r:l 6=true→v 6=ret
 n:l 10=true→l 11=false→∃ H,v 10=.pointer (some ⟨H,0,none⟩)∧W0.heap.size≤H∧aH w H T zs
 s:l 11=true→∃ H,v 10=.pointer (some ⟨H,0,none⟩)∧W0.heap.size≤H∧aH w H T us
namespace DO
variable {W0:World} {ps:List Pt} {p:Pt} {T:TypeId} {ret:Value} {zs us:Array Value} {l l':Nat→Bool} {v v':Nat→Value} {w w':World}
theorem start:DO W0 ps p T ret zs us (fun _=>false) v { W0 with drawn:=W0.drawn+1 } where
 B:=(yL _ _).drew
 c:=fun h=>by cases h
 t:=fun h=>by cases h
 a:=fun h=>by cases h
 r:=fun h=>by cases h
 n:=fun h=>by cases h
 s:=fun h=>by cases h
theorem congr (h:∀ i ∈ [2,4,5,6,10,11],l i=l' i∧v i=v' i) (j:DO W0 ps p T ret zs us l v w):DO W0 ps p T ret zs us l' v' w:=by
 have h1:=h 2 (by simp);have h2:=h 4 (by simp);have h3:=h 5 (by simp);have h4:=h 6 (by simp);have h5:=h 10 (by simp);have h6:=h 11 (by simp);obtain ⟨jB,jc,jt,ja,jr,jn,js⟩:=j;rw [h1.1,h1.2,h3.1] at jc;rw [h2.1,h2.2,h3.1] at jt;rw [h3.1,h3.2,h4.1] at ja;rw [h4.1,h4.2] at jr;rw [h5.1,h5.2,h6.1] at jn;rw [h6.1,h5.2] at js;exact ⟨jB,jc,jt,ja,jr,jn,js⟩
theorem keep (j:DO W0 ps p T ret zs us l v w) (hb:Below w.heap.size w w'):DO W0 ps p T ret zs us l v w' where
 B:=j.B.trans (hb.mono j.B.size)
 c:=fun h1 h2=>(j.c h1 h2).below hb
 t:=fun h1 h2=>by
  obtain ⟨H,e,hH,hf⟩:=j.t h1 h2;exact ⟨H,e,Nat.lt_of_lt_of_le hH hb.size,hf.keep hH hb⟩
 a:=fun h1 h2=>(j.a h1 h2).below hb
 r:=j.r
 n:=fun h1 h2=>by
  obtain ⟨H,e,hH,hf⟩:=j.n h1 h2;exact ⟨H,e,hH,hf.keep hb⟩
 s:=fun h1=>by
  obtain ⟨H,e,hH,hf⟩:=j.s h1;exact ⟨H,e,hH,hf.keep hb⟩
theorem lit (j:DO W0 ps p T ret zs us l v w):DO W0 ps p T ret zs us (Rg.upd l 4) (Rg.cU v 4 (.slice (some ⟨w.heap.size,0,none⟩) 1 1)) (w.alloc (.cells #[.int .i64 p.1,.int .i64 p.2.1,.int .i64 p.2.2] 57)) where
 B:=(j.keep (bA w _)).B
 c:=(j.keep (bA w _)).c
 t:=fun _ _=>⟨w.heap.size,rfl,by simp,Rw.From.lit yU w p _ rfl⟩
 a:=(j.keep (bA w _)).a
 r:=j.r
 n:=(j.keep (bA w _)).n
 s:=(j.keep (bA w _)).s
theorem put {u:Value} {H:Nat} (j:DO W0 ps p T ret zs us l v w) (h2:l 2=true) (h4:l 4=true) (h5:l 5=true) (h6:l 6=true) (h10:v 10=.pointer (some ⟨H,0,none⟩)) (hH:W0.heap.size≤H) (hV:aH w' H T us) (hB:Below W0.heap.size W0 w'):DO W0 ps p T ret zs us (Rg.upd l 11) (Rg.cU v 11 u) w' where
 B:=hB
 c:=fun _ h=>by
  have h:l 5=false:=h;rw [h5] at h;cases h
 t:=fun _ h=>by
  have h:l 5=false:=h;rw [h5] at h;cases h
 a:=fun _ h=>by
  have h:l 6=false:=h;rw [h6] at h;cases h
 r:=j.r
 n:=fun _ h=>by cases h
 s:=fun _=>⟨H,h10,hH,hV⟩
end DO
structure DP (W0:World) (ps:List Pt) (p:Pt) (l:Nat→Bool) (v:Nat→Value) (w:World):Prop where
 B:Below W0.heap.size W0 w
 e:l 0=true→l 2=false→Rw.Own yU w W0.heap.size (v 0) []
 c:l 2=true→l 5=false→Rw.Own yU w W0.heap.size (v 2) ps
 t:l 4=true→l 5=false→∃ H,v 4=.slice (some ⟨H,0,none⟩) 1 1∧H<w.heap.size∧W0.heap.size≤H∧Rw.From yU w (some ⟨H,0,none⟩) [p]∧(l 0=true→l 2=false→(v 0).ownBlock≠some H)
 a:l 5=true→Rw.Own yU w W0.heap.size (v 5) (ps ++ [p])
 m:l 6=true→Rw.Own yU w W0.heap.size (v 6) (ps ++ [p])
namespace DP
variable {W0:World} {ps:List Pt} {p:Pt} {l l':Nat→Bool} {v v':Nat→Value} {w w':World}
theorem start:DP W0 ps p (fun _=>false) v { W0 with drawn:=W0.drawn+1 } where
 B:=(yL _ _).drew
 e:=fun h=>by cases h
 c:=fun h=>by cases h
 t:=fun h=>by cases h
 a:=fun h=>by cases h
 m:=fun h=>by cases h
theorem congr (h:∀ i ∈ [0,2,4,5,6],l i=l' i∧v i=v' i) (j:DP W0 ps p l v w):DP W0 ps p l' v' w:=by
 have h1:=h 0 (by simp);have h2:=h 2 (by simp);have h3:=h 4 (by simp);have h4:=h 5 (by simp);have h5:=h 6 (by simp);obtain ⟨jB,je,jc,jt,ja,jm⟩:=j;rw [h1.1,h1.2,h2.1] at je;rw [h2.1,h2.2,h4.1] at jc;rw [h3.1,h3.2,h4.1,h1.1,h1.2,h2.1] at jt;rw [h4.1,h4.2] at ja;rw [h5.1,h5.2] at jm;exact ⟨jB,je,jc,jt,ja,jm⟩
theorem keep (j:DP W0 ps p l v w) (hb:Below w.heap.size w w'):DP W0 ps p l v w' where
 B:=j.B.trans (hb.mono j.B.size)
 e:=fun h1 h2=>(j.e h1 h2).below hb
 c:=fun h1 h2=>(j.c h1 h2).below hb
 t:=fun h1 h2=>by
  obtain ⟨H,e,hH,h0,hf,hn⟩:=j.t h1 h2;exact ⟨H,e,Nat.lt_of_lt_of_le hH hb.size,h0,hf.keep hH hb,hn⟩
 a:=fun h1=>(j.a h1).below hb
 m:=fun h1=>(j.m h1).below hb
theorem lit (j:DP W0 ps p l v w):DP W0 ps p (Rg.upd l 4) (Rg.cU v 4 (.slice (some ⟨w.heap.size,0,none⟩) 1 1)) (w.alloc (.cells #[.int .i64 p.1,.int .i64 p.2.1,.int .i64 p.2.2] 57)) where
 B:=(j.keep (bA w _)).B
 e:=(j.keep (bA w _)).e
 c:=(j.keep (bA w _)).c
 t:=fun _ _=>⟨w.heap.size,rfl,by simp,j.B.size,Rw.From.lit yU w p _ rfl,fun h1 h2 q=>by
  have:=((j.e h1 h2).lt _ q).2
  omega⟩
 a:=(j.keep (bA w _)).a
 m:=(j.keep (bA w _)).m
theorem take (j:DP W0 ps p l v w) (h5:l 5=true):DP W0 ps p (Rg.upd l 6) (Rg.cU v 6 (v 5)) w where
 B:=j.B
 e:=j.e
 c:=j.c
 t:=j.t
 a:=j.a
 m:=fun _=>j.a h5
end DP
namespace M
noncomputable def eI (a b:Int) (l:List Pt) (n d:Int):Bool:=bs a b l && (dy n d && decide (0<n))
theorem s8 {a b:Int} {l:List Pt} {n d:Int} (h:bs a b l=false):eI a b l n d=false:=by unfold eI;rw [h];rfl
theorem s9 {a b:Int} {l:List Pt} {n d:Int} (h:dy n d=false):eI a b l n d=false:=by unfold eI;rw [h,Bool.false_and,Bool.and_false]
theorem tA {a b:Int} {l:List Pt} {n d:Int} (h1:bs a b l=true) (h2:dy n d=true):eI a b l n d=decide (n > 0):=by unfold eI;rw [h1,h2];rfl
theorem gF {a b:Int} {l:List Pt} {n d:Int} (h:eI a b l n d=true):bs a b l=true∧dy n d=true∧0<n:=by
 unfold eI at h;simp only [Bool.and_eq_true,decide_eq_true_eq] at h;exact ⟨h.1,h.2.1,h.2.2⟩
noncomputable def fx (a b:Int) (l:List Pt):Bool:=(dA a b l).isSome && decide (0<yu (dA a b l))
noncomputable def eM (a b:Int) (l:List Pt):Bool:=bs a b l && fx a b l
noncomputable def BW (a b:Int) (l:List Pt):Int:=zA (dA a b l)
noncomputable def BV (a b:Int) (l:List Pt):Int:=zB (dA a b l)
end M
theorem BH {w:World} {v:Value} {l:List Pt} (h:dc w v l):∃ sa cap,v=.slice sa l.length cap:=by
 obtain ⟨a,cap,e,-⟩:=h;exact ⟨a,cap,e⟩
theorem fZ (a b n d:Int) (v:Value) (l:List Pt) (g:Nat) (w:World) (C:aH w g 47 #[.int .i64 a,.int .i64 b,v,.int .i64 n,.int .i64 d]) (hx:dc w v l) (hn:l.length≤4000000) :
  Calls Tryz.prog 41 #[.pointer (some ⟨g,0,none⟩)] w fun e w'=>e=.returned (.bool (M.eI a b l n d))∧Below w.heap.size w w':=by
 obtain ⟨sa,cap,rfl⟩:=BH hx
 have PL:=fun W h=>n5 a b (.slice sa l.length cap) l W h hn
 have PF:=fun W=>iD n d W
 replace hx:=yI hx
 have h1:=fun h=>M.s8 (a:=a) (b:=b) (l:=l) (n:=n) (d:=d) h
 have h2:=fun h=>M.s9 (a:=a) (b:=b) (l:=l) (n:=n) (d:=d) h
 have h3:=fun h=>M.tA (a:=a) (b:=b) (l:=l) (n:=n) (d:=d) h
 generalize M.eI a b l n d=ok at *;have ⟨c0,c1,c2,c3,c4⟩:=C.aw;generalize l.length=L,dy n d=f,M.bs a b l=p at *
 cases p with
 | false=>
  replace PL:=yI PL;replace PF:=yI PF;obtain rfl:ok=false:=h1 rfl;clear h1 h2 h3;go_enter Tryz.func41,Tryz.ntmps41
  go_upto_region 1 with fail
  refine Rg.bJ 25 [.is (.pointer (some ⟨g,0,none⟩)),.is (.pointer (some ⟨g,0,none⟩)),.is (.pointer (some ⟨g,0,none⟩)),.is (.agg #[.int .i64 a,.int .i64 b]),.is (.pointer (some ⟨g,0,none⟩)),.is (.pointer (some ⟨g,0,none⟩)),.is (.pointer (some ⟨g,2,none⟩)),.is (.slice sa L cap),.is (.bool false),.is (.bool false),.is (undef),.is (undef),.is (undef),.is (undef),.is (undef),.is (.bool false),.is (.bool false),.is (undef),.is (undef),.is (undef),.is (undef),.is (undef),.is (undef),.is (.bool false),.is (.bool false)] (by kernel_rfl) (by kernel_rfl) (by kernel_rfl) ⟨?_,?_,?_,?_,?_,?_,?_,?_,?_,?_,?_,?_,?_,?_,?_,?_,?_,?_,?_,?_,?_,?_,?_,?_,?_,trivial⟩ ?_
  ·intro _ zZ w_ hB hr
   have e0:zZ.tmps[0]?=some (.pointer (some ⟨g,0,none⟩)):=hr 0 (by decide);exact Rg.aG rfl (by go_simp)
  ·intro _ zZ w_ hB hr
   have e3:=Rg.a_ (hr 3 (by decide));exact Rg.aG rfl (by go_simp)
  ·intro _ zZ w_ hB hr
   have e4:=Rg.a_ (hr 4 (by decide));exact Rg.aG rfl (by go_simp)
  ·intro _ zZ w_ hB hr
   have e5:=Rg.a_ (hr 5 (by decide));have k0:=aE hB c0;have k1:=aE hB c1;exact Rg.aG rfl (by go_simp)
  ·intro _ zZ w_ hB hr
   have e0:zZ.tmps[0]?=some (.pointer (some ⟨g,0,none⟩)):=hr 0 (by decide);exact Rg.aG rfl (by go_simp)
  ·intro _ zZ w_ hB hr
   have e7:=Rg.a_ (hr 7 (by decide));exact Rg.aG rfl (by go_simp)
  ·intro _ zZ w_ hB hr
   have e8:=Rg.a_ (hr 8 (by decide));exact Rg.aG rfl (by go_simp)
  ·intro _ zZ w_ hB hr
   have e9:=Rg.a_ (hr 9 (by decide));have k2:=aE hB c2;exact Rg.aG rfl (by go_simp)
  ·intro _ zZ w_ hB hr
   have e6:=Rg.a_ (hr 6 (by decide));have e10:=Rg.a_ (hr 10 (by decide));have ef:=Rg.ef zZ;exact Rg.bU rfl (by go_simp) (PL.out _ (hx.out.below hB))
  ·intro _ zZ w_ hB hr
   have e11:=Rg.a_ (hr 11 (by decide));exact Rg.aG rfl (by go_simp)
  ·intro _ zZ w_ hB hr
   have e0:zZ.tmps[0]?=some (.pointer (some ⟨g,0,none⟩)):=hr 0 (by decide);have e12:=Rg.a_ (hr 12 (by decide));exact Rg.bG (Rg.af (j:=9) (b:=false) rfl (Rg.yX rfl e12))
  ·intro _ zZ w_ hB hr
   have e12:=Rg.a_ (hr 12 (by decide));have e13:=Rg.a_ (hr 13 (by decide));exact Rg.bG (Rg.af (j:=9) (b:=false) rfl (Rg.yX rfl e12))
  ·intro _ zZ w_ hB hr
   have e12:=Rg.a_ (hr 12 (by decide));have e14:=Rg.a_ (hr 14 (by decide));exact Rg.bG (Rg.af (j:=9) (b:=false) rfl (Rg.yX rfl e12))
  ·intro _ zZ w_ hB hr
   have e12:=Rg.a_ (hr 12 (by decide));have e15:=Rg.a_ (hr 15 (by decide));exact Rg.bG (Rg.af (j:=9) (b:=false) rfl (Rg.yX rfl e12))
  ·intro _ zZ w_ hB hr
   have e12:=Rg.a_ (hr 12 (by decide));have e16:=Rg.a_ (hr 16 (by decide));exact Rg.bG (Rg.af (j:=9) (b:=false) rfl (Rg.yX rfl e12))
  ·intro _ zZ w_ hB hr
   have e12:=Rg.a_ (hr 12 (by decide));have e17:=Rg.a_ (hr 17 (by decide));have ec:=Rg.ec zZ;exact Rg.aG rfl (by go_simp)
  ·intro _ zZ w_ hB hr
   have e18:=Rg.a_ (hr 18 (by decide));exact Rg.aG rfl (by go_simp)
  ·intro _ zZ w_ hB hr
   have e0:zZ.tmps[0]?=some (.pointer (some ⟨g,0,none⟩)):=hr 0 (by decide);have e19:=Rg.a_ (hr 19 (by decide));exact Rg.bG (Rg.af (j:=16) (b:=false) rfl (Rg.yX rfl e19))
  ·intro _ zZ w_ hB hr
   have e19:=Rg.a_ (hr 19 (by decide));have e20:=Rg.a_ (hr 20 (by decide));exact Rg.bG (Rg.af (j:=16) (b:=false) rfl (Rg.yX rfl e19))
  ·intro _ zZ w_ hB hr
   have e19:=Rg.a_ (hr 19 (by decide));have e21:=Rg.a_ (hr 21 (by decide));exact Rg.bG (Rg.af (j:=16) (b:=false) rfl (Rg.yX rfl e19))
  ·intro _ zZ w_ hB hr
   have e19:=Rg.a_ (hr 19 (by decide));have e22:=Rg.a_ (hr 22 (by decide));exact Rg.bG (Rg.af (j:=16) (b:=false) rfl (Rg.yX rfl e19))
  ·intro _ zZ w_ hB hr
   have e19:=Rg.a_ (hr 19 (by decide));have e23:=Rg.a_ (hr 23 (by decide));exact Rg.bG (Rg.af (j:=16) (b:=false) rfl (Rg.yX rfl e19))
  ·intro _ zZ w_ hB hr
   have e19:=Rg.a_ (hr 19 (by decide));have e24:=Rg.a_ (hr 24 (by decide));have ec:=Rg.ec zZ;exact Rg.bG (Rg.af (j:=16) (b:=false) rfl (Rg.yX rfl e19))
  ·intro _ zZ w_ hB hr
   have e19:=Rg.a_ (hr 19 (by decide));have e25:=Rg.a_ (hr 25 (by decide));have ec:=Rg.ec zZ;exact Rg.aG rfl (by go_simp)
  ·intro _ zZ w_ hB hr
   have e26:=Rg.a_ (hr 26 (by decide));exact Rg.aG rfl (by go_simp)
  intro vals wz hB hv hne;have zK:vals 24=.bool false:=hv 24 (by decide);simp only [Rg.ak,Rg.fill,Act.put,Nat.reduceAdd];clear hv;simp only [zK];clear zK;unfold Rg.aX;go_wp2;go_ret;exact ⟨rfl,hB⟩
 | true=>
 cases f with
 | false=>
  replace PL:=yI PL;replace PF:=yI PF;obtain rfl:ok=false:=h2 rfl;clear h1 h2 h3;go_enter Tryz.func41,Tryz.ntmps41
  go_upto_region 1 with fail
  refine Rg.bJ 25 [.is (.pointer (some ⟨g,0,none⟩)),.is (.pointer (some ⟨g,0,none⟩)),.is (.pointer (some ⟨g,0,none⟩)),.is (.agg #[.int .i64 a,.int .i64 b]),.is (.pointer (some ⟨g,0,none⟩)),.is (.pointer (some ⟨g,0,none⟩)),.is (.pointer (some ⟨g,2,none⟩)),.is (.slice sa L cap),.is (.bool true),.is (.bool true),.is (.pointer (some ⟨g,0,none⟩)),.is (.pointer (some ⟨g,0,none⟩)),.is (.pointer (some ⟨g,3,none⟩)),.is (.agg #[.int .i64 n,.int .i64 d]),.is (.bool false),.is (.bool false),.is (.bool false),.is (undef),.is (undef),.is (undef),.is (undef),.is (undef),.is (undef),.is (.bool false),.is (.bool false)] (by kernel_rfl) (by kernel_rfl) (by kernel_rfl) ⟨?_,?_,?_,?_,?_,?_,?_,?_,?_,?_,?_,?_,?_,?_,?_,?_,?_,?_,?_,?_,?_,?_,?_,?_,?_,trivial⟩ ?_
  ·intro _ zZ w_ hB hr
   have e0:zZ.tmps[0]?=some (.pointer (some ⟨g,0,none⟩)):=hr 0 (by decide);exact Rg.aG rfl (by go_simp)
  ·intro _ zZ w_ hB hr
   have e3:=Rg.a_ (hr 3 (by decide));exact Rg.aG rfl (by go_simp)
  ·intro _ zZ w_ hB hr
   have e4:=Rg.a_ (hr 4 (by decide));exact Rg.aG rfl (by go_simp)
  ·intro _ zZ w_ hB hr
   have e5:=Rg.a_ (hr 5 (by decide));have k0:=aE hB c0;have k1:=aE hB c1;exact Rg.aG rfl (by go_simp)
  ·intro _ zZ w_ hB hr
   have e0:zZ.tmps[0]?=some (.pointer (some ⟨g,0,none⟩)):=hr 0 (by decide);exact Rg.aG rfl (by go_simp)
  ·intro _ zZ w_ hB hr
   have e7:=Rg.a_ (hr 7 (by decide));exact Rg.aG rfl (by go_simp)
  ·intro _ zZ w_ hB hr
   have e8:=Rg.a_ (hr 8 (by decide));exact Rg.aG rfl (by go_simp)
  ·intro _ zZ w_ hB hr
   have e9:=Rg.a_ (hr 9 (by decide));have k2:=aE hB c2;exact Rg.aG rfl (by go_simp)
  ·intro _ zZ w_ hB hr
   have e6:=Rg.a_ (hr 6 (by decide));have e10:=Rg.a_ (hr 10 (by decide));have ef:=Rg.ef zZ;exact Rg.bU rfl (by go_simp) (PL.out _ (hx.out.below hB))
  ·intro _ zZ w_ hB hr
   have e11:=Rg.a_ (hr 11 (by decide));exact Rg.aG rfl (by go_simp)
  ·intro _ zZ w_ hB hr
   have e0:zZ.tmps[0]?=some (.pointer (some ⟨g,0,none⟩)):=hr 0 (by decide);have e12:=Rg.a_ (hr 12 (by decide));exact Rg.aG (Rg.aU (j:=9) (b:=true) rfl (Rg.yX rfl e12)) (by go_simp)
  ·intro _ zZ w_ hB hr
   have e12:=Rg.a_ (hr 12 (by decide));have e13:=Rg.a_ (hr 13 (by decide));exact Rg.aG (Rg.aU (j:=9) (b:=true) rfl (Rg.yX rfl e12)) (by go_simp)
  ·intro _ zZ w_ hB hr
   have e12:=Rg.a_ (hr 12 (by decide));have e14:=Rg.a_ (hr 14 (by decide));exact Rg.aG (Rg.aU (j:=9) (b:=true) rfl (Rg.yX rfl e12)) (by go_simp)
  ·intro _ zZ w_ hB hr
   have e12:=Rg.a_ (hr 12 (by decide));have e15:=Rg.a_ (hr 15 (by decide));have k3:=aE hB c3;have k4:=aE hB c4;exact Rg.aG (Rg.aU (j:=9) (b:=true) rfl (Rg.yX rfl e12)) (by go_simp)
  ·intro _ zZ w_ hB hr
   have e12:=Rg.a_ (hr 12 (by decide));have e16:=Rg.a_ (hr 16 (by decide));have ef:=Rg.ef zZ;exact Rg.bU (Rg.aU (j:=9) (b:=true) rfl (Rg.yX rfl e12)) (by go_simp) (PF.out _)
  ·intro _ zZ w_ hB hr
   have e12:=Rg.a_ (hr 12 (by decide));have e17:=Rg.a_ (hr 17 (by decide));have ec:=Rg.ec zZ;exact Rg.aG rfl (by go_simp)
  ·intro _ zZ w_ hB hr
   have e18:=Rg.a_ (hr 18 (by decide));exact Rg.aG rfl (by go_simp)
  ·intro _ zZ w_ hB hr
   have e0:zZ.tmps[0]?=some (.pointer (some ⟨g,0,none⟩)):=hr 0 (by decide);have e19:=Rg.a_ (hr 19 (by decide));exact Rg.bG (Rg.af (j:=16) (b:=false) rfl (Rg.yX rfl e19))
  ·intro _ zZ w_ hB hr
   have e19:=Rg.a_ (hr 19 (by decide));have e20:=Rg.a_ (hr 20 (by decide));exact Rg.bG (Rg.af (j:=16) (b:=false) rfl (Rg.yX rfl e19))
  ·intro _ zZ w_ hB hr
   have e19:=Rg.a_ (hr 19 (by decide));have e21:=Rg.a_ (hr 21 (by decide));exact Rg.bG (Rg.af (j:=16) (b:=false) rfl (Rg.yX rfl e19))
  ·intro _ zZ w_ hB hr
   have e19:=Rg.a_ (hr 19 (by decide));have e22:=Rg.a_ (hr 22 (by decide));exact Rg.bG (Rg.af (j:=16) (b:=false) rfl (Rg.yX rfl e19))
  ·intro _ zZ w_ hB hr
   have e19:=Rg.a_ (hr 19 (by decide));have e23:=Rg.a_ (hr 23 (by decide));exact Rg.bG (Rg.af (j:=16) (b:=false) rfl (Rg.yX rfl e19))
  ·intro _ zZ w_ hB hr
   have e19:=Rg.a_ (hr 19 (by decide));have e24:=Rg.a_ (hr 24 (by decide));have ec:=Rg.ec zZ;exact Rg.bG (Rg.af (j:=16) (b:=false) rfl (Rg.yX rfl e19))
  ·intro _ zZ w_ hB hr
   have e19:=Rg.a_ (hr 19 (by decide));have e25:=Rg.a_ (hr 25 (by decide));have ec:=Rg.ec zZ;exact Rg.aG rfl (by go_simp)
  ·intro _ zZ w_ hB hr
   have e26:=Rg.a_ (hr 26 (by decide));exact Rg.aG rfl (by go_simp)
  intro vals wz hB hv hne;have zK:vals 24=.bool false:=hv 24 (by decide);simp only [Rg.ak,Rg.fill,Act.put,Nat.reduceAdd];clear hv;simp only [zK];clear zK;unfold Rg.aX;go_wp2;go_ret;exact ⟨rfl,hB⟩
 | true=>
 replace PL:=yI PL;replace PF:=yI PF
 by_cases hpos:n > 0
 ·have hd:decide (n > 0)=true:=decide_eq_true hpos
  obtain rfl:ok=true:=(h3 rfl rfl).trans hd;clear h1 h2 h3;go_enter Tryz.func41,Tryz.ntmps41
  go_upto_region 1 with fail
  refine Rg.bJ 25 [.is (.pointer (some ⟨g,0,none⟩)),.is (.pointer (some ⟨g,0,none⟩)),.is (.pointer (some ⟨g,0,none⟩)),.is (.agg #[.int .i64 a,.int .i64 b]),.is (.pointer (some ⟨g,0,none⟩)),.is (.pointer (some ⟨g,0,none⟩)),.is (.pointer (some ⟨g,2,none⟩)),.is (.slice sa L cap),.is (.bool true),.is (.bool true),.is (.pointer (some ⟨g,0,none⟩)),.is (.pointer (some ⟨g,0,none⟩)),.is (.pointer (some ⟨g,3,none⟩)),.is (.agg #[.int .i64 n,.int .i64 d]),.is (.bool true),.is (.bool true),.is (.bool true),.is (.pointer (some ⟨g,0,none⟩)),.is (.pointer (some ⟨g,0,none⟩)),.is (.pointer (some ⟨g,3,none⟩)),.is (.pointer (some ⟨g,3,none⟩)),.is (.int .i64 n),.is (.bool true),.is (.bool true),.is (.bool true)] (by kernel_rfl) (by kernel_rfl) (by kernel_rfl) ⟨?_,?_,?_,?_,?_,?_,?_,?_,?_,?_,?_,?_,?_,?_,?_,?_,?_,?_,?_,?_,?_,?_,?_,?_,?_,trivial⟩ ?_
  ·intro _ zZ w_ hB hr
   have e0:zZ.tmps[0]?=some (.pointer (some ⟨g,0,none⟩)):=hr 0 (by decide);exact Rg.aG rfl (by go_simp)
  ·intro _ zZ w_ hB hr
   have e3:=Rg.a_ (hr 3 (by decide));exact Rg.aG rfl (by go_simp)
  ·intro _ zZ w_ hB hr
   have e4:=Rg.a_ (hr 4 (by decide));exact Rg.aG rfl (by go_simp)
  ·intro _ zZ w_ hB hr
   have e5:=Rg.a_ (hr 5 (by decide));have k0:=aE hB c0;have k1:=aE hB c1;exact Rg.aG rfl (by go_simp)
  ·intro _ zZ w_ hB hr
   have e0:zZ.tmps[0]?=some (.pointer (some ⟨g,0,none⟩)):=hr 0 (by decide);exact Rg.aG rfl (by go_simp)
  ·intro _ zZ w_ hB hr
   have e7:=Rg.a_ (hr 7 (by decide));exact Rg.aG rfl (by go_simp)
  ·intro _ zZ w_ hB hr
   have e8:=Rg.a_ (hr 8 (by decide));exact Rg.aG rfl (by go_simp)
  ·intro _ zZ w_ hB hr
   have e9:=Rg.a_ (hr 9 (by decide));have k2:=aE hB c2;exact Rg.aG rfl (by go_simp)
  ·intro _ zZ w_ hB hr
   have e6:=Rg.a_ (hr 6 (by decide));have e10:=Rg.a_ (hr 10 (by decide));have ef:=Rg.ef zZ;exact Rg.bU rfl (by go_simp) (PL.out _ (hx.out.below hB))
  ·intro _ zZ w_ hB hr
   have e11:=Rg.a_ (hr 11 (by decide));exact Rg.aG rfl (by go_simp)
  ·intro _ zZ w_ hB hr
   have e0:zZ.tmps[0]?=some (.pointer (some ⟨g,0,none⟩)):=hr 0 (by decide);have e12:=Rg.a_ (hr 12 (by decide));exact Rg.aG (Rg.aU (j:=9) (b:=true) rfl (Rg.yX rfl e12)) (by go_simp)
  ·intro _ zZ w_ hB hr
   have e12:=Rg.a_ (hr 12 (by decide));have e13:=Rg.a_ (hr 13 (by decide));exact Rg.aG (Rg.aU (j:=9) (b:=true) rfl (Rg.yX rfl e12)) (by go_simp)
  ·intro _ zZ w_ hB hr
   have e12:=Rg.a_ (hr 12 (by decide));have e14:=Rg.a_ (hr 14 (by decide));exact Rg.aG (Rg.aU (j:=9) (b:=true) rfl (Rg.yX rfl e12)) (by go_simp)
  ·intro _ zZ w_ hB hr
   have e12:=Rg.a_ (hr 12 (by decide));have e15:=Rg.a_ (hr 15 (by decide));have k3:=aE hB c3;have k4:=aE hB c4;exact Rg.aG (Rg.aU (j:=9) (b:=true) rfl (Rg.yX rfl e12)) (by go_simp)
  ·intro _ zZ w_ hB hr
   have e12:=Rg.a_ (hr 12 (by decide));have e16:=Rg.a_ (hr 16 (by decide));have ef:=Rg.ef zZ;exact Rg.bU (Rg.aU (j:=9) (b:=true) rfl (Rg.yX rfl e12)) (by go_simp) (PF.out _)
  ·intro _ zZ w_ hB hr
   have e12:=Rg.a_ (hr 12 (by decide));have e17:=Rg.a_ (hr 17 (by decide));have ec:=Rg.ec zZ;exact Rg.aG rfl (by go_simp)
  ·intro _ zZ w_ hB hr
   have e18:=Rg.a_ (hr 18 (by decide));exact Rg.aG rfl (by go_simp)
  ·intro _ zZ w_ hB hr
   have e0:zZ.tmps[0]?=some (.pointer (some ⟨g,0,none⟩)):=hr 0 (by decide);have e19:=Rg.a_ (hr 19 (by decide));exact Rg.aG (Rg.aU (j:=16) (b:=true) rfl (Rg.yX rfl e19)) (by go_simp)
  ·intro _ zZ w_ hB hr
   have e19:=Rg.a_ (hr 19 (by decide));have e20:=Rg.a_ (hr 20 (by decide));exact Rg.aG (Rg.aU (j:=16) (b:=true) rfl (Rg.yX rfl e19)) (by go_simp)
  ·intro _ zZ w_ hB hr
   have e19:=Rg.a_ (hr 19 (by decide));have e21:=Rg.a_ (hr 21 (by decide));exact Rg.aG (Rg.aU (j:=16) (b:=true) rfl (Rg.yX rfl e19)) (by go_simp)
  ·intro _ zZ w_ hB hr
   have e19:=Rg.a_ (hr 19 (by decide));have e22:=Rg.a_ (hr 22 (by decide));exact Rg.aG (Rg.aU (j:=16) (b:=true) rfl (Rg.yX rfl e19)) (by go_simp)
  ·intro _ zZ w_ hB hr
   have e19:=Rg.a_ (hr 19 (by decide));have e23:=Rg.a_ (hr 23 (by decide));have k3:=aE hB c3;exact Rg.aG (Rg.aU (j:=16) (b:=true) rfl (Rg.yX rfl e19)) (by go_simp)
  ·intro _ zZ w_ hB hr
   have e19:=Rg.a_ (hr 19 (by decide));have e24:=Rg.a_ (hr 24 (by decide));have ec:=Rg.ec zZ;exact Rg.aG (Rg.aU (j:=16) (b:=true) rfl (Rg.yX rfl e19)) (by go_simp;first | done | exact hd)
  ·intro _ zZ w_ hB hr
   have e19:=Rg.a_ (hr 19 (by decide));have e25:=Rg.a_ (hr 25 (by decide));have ec:=Rg.ec zZ;exact Rg.aG rfl (by go_simp)
  ·intro _ zZ w_ hB hr
   have e26:=Rg.a_ (hr 26 (by decide));exact Rg.aG rfl (by go_simp)
  intro vals wz hB hv hne;have zK:vals 24=.bool true:=hv 24 (by decide);simp only [Rg.ak,Rg.fill,Act.put,Nat.reduceAdd];clear hv;simp only [zK];clear zK;unfold Rg.aX;go_wp2;go_ret;exact ⟨rfl,hB⟩
 have hd:decide (n > 0)=false:=decide_eq_false hpos;obtain rfl:ok=false:=(h3 rfl rfl).trans hd;clear h1 h2 h3;go_enter Tryz.func41,Tryz.ntmps41
 go_upto_region 1 with fail
 refine Rg.bJ 25 [.is (.pointer (some ⟨g,0,none⟩)),.is (.pointer (some ⟨g,0,none⟩)),.is (.pointer (some ⟨g,0,none⟩)),.is (.agg #[.int .i64 a,.int .i64 b]),.is (.pointer (some ⟨g,0,none⟩)),.is (.pointer (some ⟨g,0,none⟩)),.is (.pointer (some ⟨g,2,none⟩)),.is (.slice sa L cap),.is (.bool true),.is (.bool true),.is (.pointer (some ⟨g,0,none⟩)),.is (.pointer (some ⟨g,0,none⟩)),.is (.pointer (some ⟨g,3,none⟩)),.is (.agg #[.int .i64 n,.int .i64 d]),.is (.bool true),.is (.bool true),.is (.bool true),.is (.pointer (some ⟨g,0,none⟩)),.is (.pointer (some ⟨g,0,none⟩)),.is (.pointer (some ⟨g,3,none⟩)),.is (.pointer (some ⟨g,3,none⟩)),.is (.int .i64 n),.is (.bool false),.is (.bool false),.is (.bool false)] (by kernel_rfl) (by kernel_rfl) (by kernel_rfl) ⟨?_,?_,?_,?_,?_,?_,?_,?_,?_,?_,?_,?_,?_,?_,?_,?_,?_,?_,?_,?_,?_,?_,?_,?_,?_,trivial⟩ ?_
 ·intro _ zZ w_ hB hr
  have e0:zZ.tmps[0]?=some (.pointer (some ⟨g,0,none⟩)):=hr 0 (by decide);exact Rg.aG rfl (by go_simp)
 ·intro _ zZ w_ hB hr
  have e3:=Rg.a_ (hr 3 (by decide));exact Rg.aG rfl (by go_simp)
 ·intro _ zZ w_ hB hr
  have e4:=Rg.a_ (hr 4 (by decide));exact Rg.aG rfl (by go_simp)
 ·intro _ zZ w_ hB hr
  have e5:=Rg.a_ (hr 5 (by decide));have k0:=aE hB c0;have k1:=aE hB c1;exact Rg.aG rfl (by go_simp)
 ·intro _ zZ w_ hB hr
  have e0:zZ.tmps[0]?=some (.pointer (some ⟨g,0,none⟩)):=hr 0 (by decide);exact Rg.aG rfl (by go_simp)
 ·intro _ zZ w_ hB hr
  have e7:=Rg.a_ (hr 7 (by decide));exact Rg.aG rfl (by go_simp)
 ·intro _ zZ w_ hB hr
  have e8:=Rg.a_ (hr 8 (by decide));exact Rg.aG rfl (by go_simp)
 ·intro _ zZ w_ hB hr
  have e9:=Rg.a_ (hr 9 (by decide));have k2:=aE hB c2;exact Rg.aG rfl (by go_simp)
 ·intro _ zZ w_ hB hr
  have e6:=Rg.a_ (hr 6 (by decide));have e10:=Rg.a_ (hr 10 (by decide));have ef:=Rg.ef zZ;exact Rg.bU rfl (by go_simp) (PL.out _ (hx.out.below hB))
 ·intro _ zZ w_ hB hr
  have e11:=Rg.a_ (hr 11 (by decide));exact Rg.aG rfl (by go_simp)
 ·intro _ zZ w_ hB hr
  have e0:zZ.tmps[0]?=some (.pointer (some ⟨g,0,none⟩)):=hr 0 (by decide);have e12:=Rg.a_ (hr 12 (by decide));exact Rg.aG (Rg.aU (j:=9) (b:=true) rfl (Rg.yX rfl e12)) (by go_simp)
 ·intro _ zZ w_ hB hr
  have e12:=Rg.a_ (hr 12 (by decide));have e13:=Rg.a_ (hr 13 (by decide));exact Rg.aG (Rg.aU (j:=9) (b:=true) rfl (Rg.yX rfl e12)) (by go_simp)
 ·intro _ zZ w_ hB hr
  have e12:=Rg.a_ (hr 12 (by decide));have e14:=Rg.a_ (hr 14 (by decide));exact Rg.aG (Rg.aU (j:=9) (b:=true) rfl (Rg.yX rfl e12)) (by go_simp)
 ·intro _ zZ w_ hB hr
  have e12:=Rg.a_ (hr 12 (by decide));have e15:=Rg.a_ (hr 15 (by decide));have k3:=aE hB c3;have k4:=aE hB c4;exact Rg.aG (Rg.aU (j:=9) (b:=true) rfl (Rg.yX rfl e12)) (by go_simp)
 ·intro _ zZ w_ hB hr
  have e12:=Rg.a_ (hr 12 (by decide));have e16:=Rg.a_ (hr 16 (by decide));have ef:=Rg.ef zZ;exact Rg.bU (Rg.aU (j:=9) (b:=true) rfl (Rg.yX rfl e12)) (by go_simp) (PF.out _)
 ·intro _ zZ w_ hB hr
  have e12:=Rg.a_ (hr 12 (by decide));have e17:=Rg.a_ (hr 17 (by decide));have ec:=Rg.ec zZ;exact Rg.aG rfl (by go_simp)
 ·intro _ zZ w_ hB hr
  have e18:=Rg.a_ (hr 18 (by decide));exact Rg.aG rfl (by go_simp)
 ·intro _ zZ w_ hB hr
  have e0:zZ.tmps[0]?=some (.pointer (some ⟨g,0,none⟩)):=hr 0 (by decide);have e19:=Rg.a_ (hr 19 (by decide));exact Rg.aG (Rg.aU (j:=16) (b:=true) rfl (Rg.yX rfl e19)) (by go_simp)
 ·intro _ zZ w_ hB hr
  have e19:=Rg.a_ (hr 19 (by decide));have e20:=Rg.a_ (hr 20 (by decide));exact Rg.aG (Rg.aU (j:=16) (b:=true) rfl (Rg.yX rfl e19)) (by go_simp)
 ·intro _ zZ w_ hB hr
  have e19:=Rg.a_ (hr 19 (by decide));have e21:=Rg.a_ (hr 21 (by decide));exact Rg.aG (Rg.aU (j:=16) (b:=true) rfl (Rg.yX rfl e19)) (by go_simp)
 ·intro _ zZ w_ hB hr
  have e19:=Rg.a_ (hr 19 (by decide));have e22:=Rg.a_ (hr 22 (by decide));exact Rg.aG (Rg.aU (j:=16) (b:=true) rfl (Rg.yX rfl e19)) (by go_simp)
 ·intro _ zZ w_ hB hr
  have e19:=Rg.a_ (hr 19 (by decide));have e23:=Rg.a_ (hr 23 (by decide));have k3:=aE hB c3;exact Rg.aG (Rg.aU (j:=16) (b:=true) rfl (Rg.yX rfl e19)) (by go_simp)
 ·intro _ zZ w_ hB hr
  have e19:=Rg.a_ (hr 19 (by decide));have e24:=Rg.a_ (hr 24 (by decide));have ec:=Rg.ec zZ;exact Rg.aG (Rg.aU (j:=16) (b:=true) rfl (Rg.yX rfl e19)) (by go_simp;first | done | exact hd)
 ·intro _ zZ w_ hB hr
  have e19:=Rg.a_ (hr 19 (by decide));have e25:=Rg.a_ (hr 25 (by decide));have ec:=Rg.ec zZ;exact Rg.aG rfl (by go_simp)
 ·intro _ zZ w_ hB hr
  have e26:=Rg.a_ (hr 26 (by decide));exact Rg.aG rfl (by go_simp)
 intro vals wz hB hv hne;have zK:vals 24=.bool false:=hv 24 (by decide);simp only [Rg.ak,Rg.fill,Act.put,Nat.reduceAdd];clear hv;simp only [zK];clear zK;unfold Rg.aX;go_wp2;go_ret;exact ⟨rfl,hB⟩
theorem kE (a b:Int) (v:Value) (l:List Pt) (w:World) (hx:dc w v l) (hn:l.length≤4000000) :
  Calls Tryz.prog 60 #[.agg #[.int .i64 a,.int .i64 b],v] w fun e w'=>e=.returned (.bool (M.bs a b l))∧Below w.heap.size w w':=by
 obtain ⟨sa,cap,rfl⟩:=BH hx
 have PL:=yI fun W h=>tU a b (.slice sa l.length cap) l W h hn
 obtain ⟨wc,hw3,C,B⟩:=ei w #[.int .i64 a,.int .i64 b] 29;have hxc:=yI (hx.below B);have j_:=C.box.c0;have l_:=C.box.c1;generalize l.length=L,M.bs a b l=p at *;clear hx;go_enter Tryz.func60,Tryz.ntmps60
 go_wp2_with (go_at_call 32;(refine (PL.out _ hxc.out).mono ?_);rintro e w4 ⟨rfl,hb4⟩;replace B:=f_ B hb4)
 go_ret;exact ⟨rfl,B⟩
theorem ni (a b n d:Int) (v:Value) (l:List Pt) (w:World) (hx:dc w v l) (hn:l.length≤4000000) :
  Calls Tryz.prog 38 #[.agg #[.int .i64 a,.int .i64 b,v,.int .i64 n,.int .i64 d]] w fun e w'=>e=.returned (.bool (M.eI a b l n d))∧Below w.heap.size w w':=by
 obtain ⟨sa,cap,rfl⟩:=BH hx
 have PL:=fun W h=>kE a b (.slice sa l.length cap) l W h hn
 have PF:=fun W=>j9 n d W
 obtain ⟨wc,hw3,C,B⟩:=ei w #[.int .i64 a,.int .i64 b,.slice sa l.length cap,.int .i64 n,.int .i64 d] 47;have hxc:=yI (hx.below B)
 have h1:=fun h=>M.s8 (a:=a) (b:=b) (l:=l) (n:=n) (d:=d) h
 have h2:=fun h=>M.s9 (a:=a) (b:=b) (l:=l) (n:=n) (d:=d) h
 have h3:=fun h=>M.tA (a:=a) (b:=b) (l:=l) (n:=n) (d:=d) h
 generalize M.eI a b l n d=ok at *;have ⟨c0,c1,c2,c3,c4⟩:=C.aw;generalize l.length=L,dy n d=f,M.bs a b l=p at *;clear hx
 cases p with
 | false=>
  replace PL:=yI PL;replace PF:=yI PF;obtain rfl:ok=false:=h1 rfl;clear h1 h2 h3;go_enter Tryz.func38,Tryz.ntmps38
  go_wp2_with first | (go_at_call 60;(refine (PL.out _ hxc.out).mono ?_);rintro e w4 ⟨rfl,hb4⟩;replace B:=f_ B hb4;replace C:=C.keep hb4;(have ⟨c0,c1,c2,c3,c4⟩:=C.aw)) | (go_at_call 61;(refine (PF.out _).mono ?_);rintro e w5 ⟨rfl,hb5⟩;replace B:=f_ B hb5;replace C:=C.keep hb5;(have ⟨c0,c1,c2,c3,c4⟩:=C.aw))
  go_ret;exact ⟨rfl,B⟩
 | true=>
 cases f with
 | false=>
  replace PL:=yI PL;replace PF:=yI PF;obtain rfl:ok=false:=h2 rfl;clear h1 h2 h3;go_enter Tryz.func38,Tryz.ntmps38
  go_wp2_with first | (go_at_call 60;(refine (PL.out _ hxc.out).mono ?_);rintro e w4 ⟨rfl,hb4⟩;replace B:=f_ B hb4;replace C:=C.keep hb4;(have ⟨c0,c1,c2,c3,c4⟩:=C.aw)) | (go_at_call 61;(refine (PF.out _).mono ?_);rintro e w5 ⟨rfl,hb5⟩;replace B:=f_ B hb5;replace C:=C.keep hb5;(have ⟨c0,c1,c2,c3,c4⟩:=C.aw))
  go_ret;exact ⟨rfl,B⟩
 | true=>
 replace PL:=yI PL;replace PF:=yI PF
 by_cases hpos:n > 0
 ·have hd:decide (n > 0)=true:=decide_eq_true hpos
  obtain rfl:ok=true:=(h3 rfl rfl).trans hd;clear h1 h2 h3;go_enter Tryz.func38,Tryz.ntmps38
  go_wp2_with first | (go_at_call 60;(refine (PL.out _ hxc.out).mono ?_);rintro e w4 ⟨rfl,hb4⟩;replace B:=f_ B hb4;replace C:=C.keep hb4;(have ⟨c0,c1,c2,c3,c4⟩:=C.aw)) | (go_at_call 61;(refine (PF.out _).mono ?_);rintro e w5 ⟨rfl,hb5⟩;replace B:=f_ B hb5;replace C:=C.keep hb5;(have ⟨c0,c1,c2,c3,c4⟩:=C.aw))
  go_ret;exact ⟨by first | rfl | simp [hd],B⟩
 have hd:decide (n > 0)=false:=decide_eq_false hpos;obtain rfl:ok=false:=(h3 rfl rfl).trans hd;clear h1 h2 h3;go_enter Tryz.func38,Tryz.ntmps38
 go_wp2_with first | (go_at_call 60;(refine (PL.out _ hxc.out).mono ?_);rintro e w4 ⟨rfl,hb4⟩;replace B:=f_ B hb4;replace C:=C.keep hb4;(have ⟨c0,c1,c2,c3,c4⟩:=C.aw)) | (go_at_call 61;(refine (PF.out _).mono ?_);rintro e w5 ⟨rfl,hb5⟩;replace B:=f_ B hb5;replace C:=C.keep hb5;(have ⟨c0,c1,c2,c3,c4⟩:=C.aw))
 go_ret;exact ⟨by first | rfl | simp [hd],B⟩
structure Ae (w:World) (gc gf gr base:Nat) (a b:Int) (T:TypeId) (fs zs:Array Value) (W:World):Prop where
 B:Below w.heap.size w W
 C:aH W gc 29 #[.int .i64 a,.int .i64 b]
 F:aH W gf T fs
 R:aH W gr 47 zs
 hc:gc≠gr
 hf:gf≠gr
 hr:w.heap.size≤gr
 hl:gr<base
 hb:base≤W.heap.size
theorem Ae.keep {w:World} {gc gf gr base:Nat} {a b:Int} {T:TypeId} {fs zs:Array Value} {W W':World} (h:Ae w gc gf gr base a b T fs zs W) (hb:Below W.heap.size W W'):Ae w gc gf gr base a b T fs zs W':=
 ⟨h.B.trans (hb.mono h.B.size),h.C.keep hb,h.F.keep hb,h.R.keep hb,h.hc,h.hf,h.hr,h.hl,Nat.le_trans h.hb hb.size⟩
theorem Ae.grown {w:World} {gc gf gr base:Nat} {a b:Int} {T:TypeId} {fs zs:Array Value} {W W':World} (h:Ae w gc gf gr base a b T fs zs W) {v:Value} {ps:List Pt} (ho:Rw.Own yU W base v ps) (hg:W.grownBy W' v.ownBlock) (hc:(29:TypeId)≠yU.t) (hf:T≠yU.t) (hR:(47:TypeId)≠yU.t):Ae w gc gf gr base a b T fs zs W':=
 ⟨h.B.grown hg h.B.size (fun k hk=>Nat.le_trans h.hr (Nat.le_of_lt (Nat.lt_of_lt_of_le h.hl (ho.lt k hk).1))),h.C.kC ho hg hc,h.F.kC ho hg hf,h.R.kC ho hg hR,h.hc,h.hf,h.hr,h.hl,Nat.le_trans h.hb hg.size⟩
theorem gU (w:World) (p:Addr) (x:Value):(w.setCell p x).heap.size=w.heap.size:=by simp [World.setCell]
theorem Ae.put {w:World} {gc gf gr base:Nat} {a b:Int} {T:TypeId} {fs:Array Value} {x1 x2 x3 x4 x5:Value} {W:World} (h:Ae w gc gf gr base a b T fs #[x1,x2,x3,x4,x5] W) (y1 y2 y3 y4 y5:Value):Ae w gc gf gr base a b T fs #[y1,y2,y3,y4,y5] (((((W.setCell ⟨gr,0,none⟩ y1).setCell ⟨gr,1,none⟩ y2).setCell ⟨gr,2,none⟩ y3).setCell ⟨gr,3,none⟩ y4).setCell ⟨gr,4,none⟩ y5):=
 ⟨yK (yK (yK (yK (yK h.B h.hr _) h.hr _) h.hr _) h.hr _) h.hr _,((((h.C.other h.hc _).other h.hc _).other h.hc _).other h.hc _).other h.hc _,((((h.F.other h.hf _).other h.hf _).other h.hf _).other h.hf _).other h.hf _,h.R.xx ..,h.hc,h.hf,h.hr,h.hl,by simp only [gU];exact h.hb⟩
theorem Rw.Own.rj {α:Type} {E:Rw.Enc α} {w:World} {base k:Nat} {v:Value} {xs:List α} (h:Rw.Own E w base v xs) (hk:k<base) (y1 y2 y3 y4 y5:Value):Rw.Own E (((((w.setCell ⟨k,0,none⟩ y1).setCell ⟨k,1,none⟩ y2).setCell ⟨k,2,none⟩ y3).setCell ⟨k,3,none⟩ y4).setCell ⟨k,4,none⟩ y5) base v xs:=
 ((((h.dg hk _).dg hk _).dg hk _).dg hk _).dg hk _
def eS (i j:Nat) (w:World) (gc gf gr base:Nat) (a b n d:Int) (T:TypeId) (fs:Array Value) (l:List Pt) (k:Nat) (v:Nat→Value) (W:World):Prop:=match k with
 | 0=>Ae w gc gf gr base a b T fs #[.int .i64 0,.int .i64 0,.slice none 0 0,.int .i64 0,.int .i64 0] W
 | 1=>Ae w gc gf gr base a b T fs #[.int .i64 0,.int .i64 0,.slice none 0 0,.int .i64 0,.int .i64 0] W∧Rw.Own yU W base (v i) l
 | 2=>(Ae w gc gf gr base a b T fs #[.int .i64 0,.int .i64 0,.slice none 0 0,.int .i64 0,.int .i64 0] W∧Rw.Own yU W base (v i) l)∧v j=.agg #[.int .i64 a,.int .i64 b,v i,.int .i64 n,.int .i64 d]
 | _=>(Ae w gc gf gr base a b T fs #[.int .i64 a,.int .i64 b,v i,.int .i64 n,.int .i64 d] W∧Rw.Own yU W base (v i) l)∧v j=.agg #[.int .i64 a,.int .i64 b,v i,.int .i64 n,.int .i64 d]
theorem eS.congr {i j:Nat} {w:World} {gc gf gr base:Nat} {a b n d:Int} {T:TypeId} {fs:Array Value} {l:List Pt} {k:Nat} {v v':Nat→Value} {W:World} (h1:v i=v' i) (h2:v j=v' j) (h:eS i j w gc gf gr base a b n d T fs l k v W):eS i j w gc gf gr base a b n d T fs l k v' W:=by
 unfold eS at *;rw [←h1,←h2];exact h
theorem eS.st {i j:Nat} {w:World} {gc gf gr base:Nat} {a b n d:Int} {T:TypeId} {fs:Array Value} {l:List Pt} {k:Nat} {v:Nat→Value} {W:World} (h:eS i j w gc gf gr base a b n d T fs l k v W):∃ zs,Ae w gc gf gr base a b T fs zs W:=by
 match k,h with
 | 0,h=>exact ⟨_,h⟩
 | 1,h=>exact ⟨_,h.1⟩
 | 2,h=>exact ⟨_,h.1.1⟩
 | _+3,h=>exact ⟨_,h.1.1⟩
theorem eS.store {i j:Nat} {w:World} {gc gf gr base:Nat} {a b n d:Int} {T:TypeId} {fs:Array Value} {l:List Pt} {v v':Nat→Value} {W:World} {u:Value} (h:eS i j w gc gf gr base a b n d T fs l 2 v W) (hu:u=v i) (h1:v i=v' i) (h2:v j=v' j):eS i j w gc gf gr base a b n d T fs l 3 v' (((((W.setCell ⟨gr,0,none⟩ (.int .i64 a)).setCell ⟨gr,1,none⟩ (.int .i64 b)).setCell ⟨gr,2,none⟩ u).setCell ⟨gr,3,none⟩ (.int .i64 n)).setCell ⟨gr,4,none⟩ (.int .i64 d)):=by
 subst hu;exact eS.congr h1 h2 (show eS i j w gc gf gr base a b n d T fs l 3 v _ from ⟨⟨h.1.1.put ..,h.1.2.rj h.1.1.hl ..⟩,h.2⟩)
theorem M9 {a b:Int} {l:List Pt} {w:World} {base:Nat} (h:M.fx a b l=false) (n d:Int):(Value.tuple #[.agg #[.int .i64 0,.int .i64 0,.slice none 0 0,.int .i64 0,.int .i64 0],.bool false])=.tuple #[.agg #[.int .i64 (M.pick (M.fx a b l) a),.int .i64 (M.pick (M.fx a b l) b),.slice none 0 0,.int .i64 (M.pick (M.fx a b l) n),.int .i64 (M.pick (M.fx a b l) d)],.bool (M.fx a b l)]∧Rw.Own yU w base (.slice none 0 0) (if M.fx a b l=true then l else []):=by
 rw [h];exact ⟨rfl,Rw.Own.nil yU _ _⟩
theorem iF (a b:Int) (v:Value) (l:List Pt) (w:World) (hx:dc w v l) (hg:M.good a b=true) (h1:1≤l.length) (hn:l.length≤4) (hp:∀ p ∈ l,M.bS a b p.1 p.2.1 p.2.2=true) :
  Calls Tryz.prog 45 #[.agg #[.int .i64 a,.int .i64 b],v] w fun e w'=>∃ v',e=.returned (.tuple #[.agg #[.int .i64 (M.pick (M.fx a b l) a),.int .i64 (M.pick (M.fx a b l) b),v',.int .i64 (M.pick (M.fx a b l) (M.BW a b l)),.int .i64 (M.pick (M.fx a b l) (M.BV a b l))],.bool (M.fx a b l)])∧Rw.Own yU w' w.heap.size v' (if M.fx a b l=true then l else [])∧Below w.heap.size w w':=by
 obtain ⟨sa,cap,rfl⟩:=BH hx
 have RG:=fun W h=>oM a b (.slice sa l.length cap) l W h hg h1 hn hp
 have CL:=yI (fun w (h:dc w (.slice sa l.length cap) l)=>ju l (.slice sa l.length cap) w h (by omega))
 have hno:=fun W base h=>M9 (a:=a) (b:=b) (l:=l) (w:=W) (base:=base) h (M.BW a b l) (M.BV a b l)
 have hok:M.fx a b l=((M.dA a b l).isSome && decide (0<M.yu (M.dA a b l))):=rfl
 have hN:(M.dA a b l).isSome=true→M.BW a b l=M.fN (M.zp (M.yu (M.dA a b l)) 4096)∧M.BV a b l=M.fD (M.zp (M.yu (M.dA a b l)) 4096):=by
  unfold M.BW M.BV
  cases M.dA a b l with
  | none=>intro h;cases h
  | some q=>intro _;exact ⟨rfl,rfl⟩
 have hbd:(M.dA a b l).isSome=true→-409600000≤M.yu (M.dA a b l)∧M.yu (M.dA a b l)≤409600000:=by
  have h3:=M.qV (a:=a) (b:=b) (l:=l)
  cases hq:M.dA a b l with
  | none=>intro h;cases h
  | some q=>
  intro _;rw [hq] at h3;obtain ⟨h4,h5,h6⟩:=M.fP h3;exact ⟨h5,Int.le_trans h4 h6⟩
 generalize M.dA a b l=rs,M.fx a b l=ok,M.BV a b l=d,M.BW a b l=n at *;generalize M.yx rs=hh,M.yu rs=lo,rs.isSome=fl at *;replace RG:=yI RG;replace hno:=yI hno;obtain ⟨wc,hw3,C,R,B⟩:=gW w #[.int .i64 a,.int .i64 b] 29 #[.int .i64 0,.int .i64 0,.slice none 0 0,.int .i64 0,.int .i64 0] 47;have hxc:=yI (hx.below B);have Hx:=yI hx;have j_:=C.box.c0;have l_:=C.box.c1
 have hzz:w.heap.size+2≤wc.heap.size:=by have:=R.lt;omega
 have hcap:=yI hn;clear hg hp hx h1 hn
 cases fl with
 | false=>
  obtain rfl:ok=false:=hok
  have hfin:=fun W=>hno.out W w.heap.size rfl
  replace hfin:=yI hfin;clear hN hbd hno CL;go_enter Tryz.func45,Tryz.ntmps45
  go_wp2_with (go_at_call 35;(refine (RG.out _ hxc.out).mono ?_);rintro e w4 ⟨rfl,hb4⟩;have Ba:=(yL w4.heap.size w4).alloc (yM _) (.cells #[.int .i64 lo,.int .i64 hh] 68);replace B:=(f_ B hb4).trans (Ba.mono (Nat.le_trans B.size hb4.size));replace R:=(R.keep hb4).keep Ba;(have ⟨r0,r1,r2,r3,r4⟩:=R.aw);(have ⟨r5,r6,r7,r8,r9,_⟩:=R.dz))
  exact bodyPost_ret (v:=.tuple #[.agg #[.int .i64 0,.int .i64 0,.slice none 0 0,.int .i64 0,.int .i64 0],.bool false]) (by simp [results,Tryz.results45,go_sem, *]) rfl (⟨.slice none 0 0,by rw [(hfin.out w).1],(hfin.out _).2,yK (yK (yK (yK (yK B (by simp) _) (by simp) _) (by simp) _) (by simp) _) (by simp) _⟩)
 | true=>
 by_cases hpos:0<lo
 ·have hd:decide (lo≤0)=false:=decide_eq_false (by omega)
  obtain rfl:ok=true:=hok.trans (decide_eq_true hpos);obtain ⟨rfl,rfl⟩:=hN rfl;obtain ⟨b1,b2⟩:=hbd rfl
  have MF:=fun W=>kN lo 4096 W (by omega) (by omega) (by omega) (by omega) (by omega)
  generalize (M.zp lo 4096).isSome=fq,M.fD (M.zp lo 4096)=d,M.fN (M.zp lo 4096)=n at *;replace MF:=yI MF;clear hok hN hbd hno;go_enter Tryz.func45,Tryz.ntmps45
  go_upto_region 5 with first
   | (go_at_call 35;(refine (RG.out _ hxc.out).mono ?_);rintro e w4 ⟨rfl,hb4⟩;have Ba:=(yL w4.heap.size w4).alloc (yM _) (.cells #[.int .i64 lo,.int .i64 hh] 68);have S:=aH.new w4 #[.int .i64 lo,.int .i64 hh] 68;have Ab:=hb4.size;replace B:=(f_ B hb4).trans (Ba.mono (Nat.le_trans B.size hb4.size));replace R:=(R.keep hb4).keep Ba;replace C:=(C.keep hb4).keep Ba;have s0:=S.box.c0;have za:=Ba.size)
   | (go_at_call 63;(refine (MF.out _).mono ?_);rintro e w5 ⟨rfl,hb5⟩;have Bb:=(yL w5.heap.size w5).alloc (yM _) (.cells #[.int .i64 n,.int .i64 d] 45);have F:=aH.new w5 #[.int .i64 n,.int .i64 d] 45;have hz5:=hb5.size;replace B:=(f_ B hb5).trans (Bb.mono (Nat.le_trans B.size hb5.size));replace R:=(R.keep hb5).keep Bb;replace C:=(C.keep hb5).keep Bb;have J0:=yI (Ae.mk B C F R (by omega) (by omega) (by omega) (show w.heap.size+1<w5.heap.size+1 by omega) (by rw [yJ];omega)))
  refine Rg.ke (fun k v W=>eS 2 4 w w.heap.size w5.heap.size (w.heap.size+1) (w5.heap.size+1) a b n d 45 #[.int .i64 n,.int .i64 d] l k v W) [2,4,5] [.agg #[.int .i64 a,.int .i64 b],.slice sa l.length cap,undef,.agg #[.int .i64 n,.int .i64 d],undef,undef,.bool true] (by kernel_rfl) (by kernel_rfl) (by kernel_rfl) (by decide) (fun k v v2 W h hj=>eS.congr (h 2 (by decide)) (h 4 (by decide)) hj) (fun _=>J0.out.keep (yL _ _).drew) ⟨?_,?_,?_,?_,?_,?_,?_,trivial⟩ ?_
  ·unfold Rg.aV
   rw [if_neg (by decide)];intro zZ w_ n_ i_ yv hJ hr;refine ⟨rfl,?_⟩;have e2:zZ.tmps[2]?=some (.pointer (some ⟨w.heap.size,0,none⟩)):=hr 2 (by decide);obtain ⟨FO,hs_⟩:=eS.st hJ;have k0:=hs_.C.box.c0;have k1:=hs_.C.box.c1
   (first | (go_simp;done) | (go_simp;exact Rg.wr (by omega) (by omega)) | (go_simp;omega) | (go_simp;rfl))
  ·unfold Rg.aV
   rw [if_neg (by decide)];intro zZ w_ n_ i_ yv hJ hr;refine ⟨rfl,?_⟩;have e1:zZ.tmps[1]?=some (.slice sa l.length cap):=hr 1 (by decide)
   go_simp
  ·unfold Rg.aV
   rw [if_pos (by decide)];intro zZ w_ i_ hJ hr;have e31:zZ.tmps[31]?=some (.slice sa l.length cap):=hr 31 (by decide)
   have ef:∀ f,zZ.eval (.func f)=.func (.func f) #[] #[]:=fun _=>rfl
   refine ⟨rfl,?_⟩;have zC:Ae w w.heap.size w5.heap.size (w.heap.size+1) (w5.heap.size+1) a b 45 #[.int .i64 n,.int .i64 d] #[.int .i64 0,.int .i64 0,.slice none 0 0,.int .i64 0,.int .i64 0] w_:=hJ;refine Rg.iw (by go_simp;exact ⟨rfl,rfl⟩) ?_;refine (CL.out _ (Hx.out.below zC.B)).mono ?_;rintro e G3 ⟨u_,rfl,yp,AK⟩;exact ⟨u_,rfl,zC.keep AK,yp.down zC.hb⟩
  ·unfold Rg.aV
   rw [if_neg (by decide)];intro zZ w_ n_ i_ yv hJ hr;refine ⟨rfl,?_⟩;have e8:zZ.tmps[8]?=some (.pointer (some ⟨w5.heap.size,0,none⟩)):=hr 8 (by decide);obtain ⟨FO,hs_⟩:=eS.st hJ;have k0:=hs_.F.box.c0;have k1:=hs_.F.box.c1
   (first | (go_simp;done) | (go_simp;exact Rg.wr (by omega) (by omega)) | (go_simp;omega) | (go_simp;rfl))
  ·unfold Rg.aV
   rw [if_pos (by decide)];intro zZ w_ i_ hJ hr;have e30:zZ.tmps[30]?=some (.agg #[.int .i64 a,.int .i64 b]):=hr 30 (by decide);have e32:zZ.tmps[32]?=some (i_ 2):=hr 32 (by decide);have e33:zZ.tmps[33]?=some (.agg #[.int .i64 n,.int .i64 d]):=hr 33 (by decide);refine ⟨rfl,?_⟩;obtain ⟨zC,yp⟩:Ae w w.heap.size w5.heap.size (w.heap.size+1) (w5.heap.size+1) a b 45 #[.int .i64 n,.int .i64 d] #[.int .i64 0,.int .i64 0,.slice none 0 0,.int .i64 0,.int .i64 0] w_∧Rw.Own yU w_ (w5.heap.size+1) (i_ 2) l:=hJ;obtain ⟨A_,c_,q_⟩:=BH yp.seen.pts;rw [q_] at e32;refine Rg.iH (x:=.agg #[.int .i64 a,.int .i64 b,.slice A_ l.length c_,.int .i64 n,.int .i64 d]) (w2:=w_) (by (first | (go_simp;done) | (go_simp;exact Rg.wr (by omega) (by omega)) | (go_simp;omega) | (go_simp;rfl))) ?_;exact ⟨⟨zC,yp⟩,by show Value.agg _=Value.agg #[.int .i64 a,.int .i64 b,(i_ 2),.int .i64 n,.int .i64 d];rw [q_]⟩
  ·unfold Rg.aV
   rw [if_pos (by decide)];intro zZ w_ i_ hJ hr;have e4:zZ.tmps[4]?=some (.pointer (some ⟨w.heap.size+1,0,none⟩)):=hr 4 (by decide);have e34:zZ.tmps[34]?=some (i_ 4):=hr 34 (by decide);refine ⟨rfl,?_⟩;have hJ:eS 2 4 w w.heap.size w5.heap.size (w.heap.size+1) (w5.heap.size+1) a b n d 45 #[.int .i64 n,.int .i64 d] l 2 i_ w_:=hJ;obtain ⟨⟨zC,yp⟩,Hh⟩:(Ae w w.heap.size w5.heap.size (w.heap.size+1) (w5.heap.size+1) a b 45 #[.int .i64 n,.int .i64 d] #[.int .i64 0,.int .i64 0,.slice none 0 0,.int .i64 0,.int .i64 0] w_∧Rw.Own yU w_ (w5.heap.size+1) (i_ 2) l)∧i_ 4=.agg #[.int .i64 a,.int .i64 b,i_ 2,.int .i64 n,.int .i64 d]:=hJ;obtain ⟨A_,c_,q_⟩:=BH yp.seen.pts;have Ce:=eS.store (v':=Rg.cU i_ 5 undef) hJ q_.symm rfl rfl;rw [Hh,q_] at e34;have ⟨y0,y1,y2,y3,y4⟩:=zC.R.aw;have ⟨y5,y6,y7,y8,y9,_⟩:=zC.R.dz;clear zC yp hJ Hh q_;unfold Oper.wp
   go_simp
   all_goals first | exact ⟨undef,Ce⟩ | exact ⟨_,rfl,Ce⟩ | exact Ce
  ·unfold Rg.aV
   rw [if_neg (by decide)];intro zZ w_ n_ i_ yv hJ hr;refine ⟨rfl,?_⟩;have ec:=Rg.ec zZ
   go_simp
  intro vals wz hJ hv;have Cl:vals 6=.bool true:=hv 6 (by decide) (by decide);simp only [Rg.ak,Rg.fill,Act.put,Nat.reduceAdd];clear hv;simp only [Cl];clear Cl;obtain ⟨⟨hS,hO⟩,hE⟩:(Ae w w.heap.size w5.heap.size (w.heap.size+1) (w5.heap.size+1) a b 45 #[.int .i64 n,.int .i64 d] #[.int .i64 a,.int .i64 b,vals 2,.int .i64 n,.int .i64 d] wz∧Rw.Own yU wz (w5.heap.size+1) (vals 2) l)∧vals 4=.agg #[.int .i64 a,.int .i64 b,vals 2,.int .i64 n,.int .i64 d]:=hJ;obtain ⟨A2,c2,q2⟩:=BH hO.seen.pts;rw [q2] at hS hO;rw [hE,q2];have R2:=hS.R;have ⟨r0,r1,r2,r3,r4⟩:=R2.aw;have BB:=hS.B;have hO:=yI (hO.down (base':=w.heap.size) (by omega));clear J0 hS hE;go_wp2;exact bodyPost_ret (v:=.tuple #[.agg #[.int .i64 a,.int .i64 b,.slice A2 l.length c2,.int .i64 n,.int .i64 d],.bool true]) (by simp [results,Tryz.results45,go_sem, *]) rfl (⟨_,rfl,hO.out,BB⟩)
 have hd:decide (lo≤0)=true:=decide_eq_true (by omega);obtain rfl:ok=false:=hok.trans (decide_eq_false hpos)
 have hfin:=fun W=>hno.out W w.heap.size rfl
 replace hfin:=yI hfin;clear hok hN hbd hno CL;go_enter Tryz.func45,Tryz.ntmps45
 go_wp2_with (go_at_call 35;(refine (RG.out _ hxc.out).mono ?_);rintro e w4 ⟨rfl,hb4⟩;have Ba:=(yL w4.heap.size w4).alloc (yM _) (.cells #[.int .i64 lo,.int .i64 hh] 68);have S:=aH.new w4 #[.int .i64 lo,.int .i64 hh] 68;have s0:=S.box.c0;replace B:=(f_ B hb4).trans (Ba.mono (Nat.le_trans B.size hb4.size));replace R:=(R.keep hb4).keep Ba;(have ⟨r0,r1,r2,r3,r4⟩:=R.aw);(have ⟨r5,r6,r7,r8,r9,_⟩:=R.dz))
 exact bodyPost_ret (v:=.tuple #[.agg #[.int .i64 0,.int .i64 0,.slice none 0 0,.int .i64 0,.int .i64 0],.bool false]) (by simp [results,Tryz.results45,go_sem, *]) rfl (⟨.slice none 0 0,by rw [(hfin.out w).1],(hfin.out _).2,yK (yK (yK (yK (yK B (by simp) _) (by simp) _) (by simp) _) (by simp) _) (by simp) _⟩)
theorem mw:(29:TypeId)≠yU.t:=by show (29:TypeId)≠57;decide
theorem jb:(64:TypeId)≠yU.t:=by show (64:TypeId)≠57;decide
theorem gX:(47:TypeId)≠yU.t:=by show (47:TypeId)≠57;decide
def gO (w:World) (gc gf gr base:Nat) (a b n d:Int) (T:TypeId) (fs:Array Value) (l:List Pt) (k:Nat) (v:Nat→Value) (W:World):Prop:=match k with
 | 0=>Ae w gc gf gr base a b T fs #[.int .i64 0,.int .i64 0,.slice none 0 0,.int .i64 0,.int .i64 0] W
 | 1=>Ae w gc gf gr base a b T fs #[.int .i64 0,.int .i64 0,.slice none 0 0,.int .i64 0,.int .i64 0] W∧Rw.Own yU W base (v 1) []
 | k+2=>eS 3 6 w gc gf gr base a b n d T fs l (k+1) v W
theorem gO.congr {w:World} {gc gf gr base:Nat} {a b n d:Int} {T:TypeId} {fs:Array Value} {l:List Pt} {k:Nat} {v v':Nat→Value} {W:World} (h0:v 1=v' 1) (h1:v 3=v' 3) (h2:v 6=v' 6) (h:gO w gc gf gr base a b n d T fs l k v W):gO w gc gf gr base a b n d T fs l k v' W:=by
 match k,h with
 | 0,h=>exact h
 | 1,h=>unfold gO at *;rw [←h0];exact h
 | k+2,h=>exact eS.congr (k:=k+1) h1 h2 h
theorem gO.st {w:World} {gc gf gr base:Nat} {a b n d:Int} {T:TypeId} {fs:Array Value} {l:List Pt} {k:Nat} {v:Nat→Value} {W:World} (h:gO w gc gf gr base a b n d T fs l k v W):∃ zs,Ae w gc gf gr base a b T fs zs W:=by
 match k,h with
 | 0,h=>exact ⟨_,h⟩
 | 1,h=>exact ⟨_,h.1⟩
 | k+2,h=>exact eS.st (k:=k+1) h
theorem M.wD {a b:Int} {l:List Pt} (h:M.bs a b l=false):M.eM a b l=false:=by unfold M.eM;rw [h];rfl
theorem M.tu {a b:Int} {l:List Pt} (h:M.bs a b l=true):M.eM a b l=M.fx a b l:=by unfold M.eM;rw [h];rfl
theorem NA {a b:Int} {l:List Pt} {w:World} {base:Nat} (h:M.eM a b l=false) (n d:Int):(Value.tuple #[.agg #[.int .i64 0,.int .i64 0,.slice none 0 0,.int .i64 0,.int .i64 0],.bool false])=.tuple #[.agg #[.int .i64 (M.pick (M.eM a b l) a),.int .i64 (M.pick (M.eM a b l) b),.slice none 0 0,.int .i64 (M.pick (M.eM a b l) n),.int .i64 (M.pick (M.eM a b l) d)],.bool (M.eM a b l)]∧Rw.Own yU w base (.slice none 0 0) (if M.eM a b l=true then l else []):=by
 rw [h];exact ⟨rfl,Rw.Own.nil yU _ _⟩
theorem tW (a b:Int) (v:Value) (l:List Pt) (w:World) (hx:dc w v l) (hn:l.length≤4000000) :
  Calls Tryz.prog 44 #[.agg #[.int .i64 a,.int .i64 b],v] w fun e w'=>∃ v',e=.returned (.tuple #[.agg #[.int .i64 (M.pick (M.eM a b l) a),.int .i64 (M.pick (M.eM a b l) b),v',.int .i64 (M.pick (M.eM a b l) (M.BW a b l)),.int .i64 (M.pick (M.eM a b l) (M.BV a b l))],.bool (M.eM a b l)])∧Rw.Own yU w' w.heap.size v' (if M.eM a b l=true then l else [])∧Below w.heap.size w w':=by
 obtain ⟨sa,cap,rfl⟩:=BH hx
 have PL:=fun W h=>kE a b (.slice sa l.length cap) l W h hn
 have hno:=fun W h=>NA (a:=a) (b:=b) (l:=l) (w:=W) (base:=w.heap.size) h (M.BW a b l) (M.BV a b l)
 obtain ⟨wc,hw3,C,R,B⟩:=gW w #[.int .i64 a,.int .i64 b] 29 #[.int .i64 0,.int .i64 0,.slice none 0 0,.int .i64 0,.int .i64 0] 47;have hxc:=yI (hx.below B);have Hx:=yI hx;have j_:=C.box.c0;have l_:=C.box.c1;have ⟨r0,r1,r2,r3,r4⟩:=R.aw;have ⟨r5,r6,r7,r8,r9,_⟩:=R.dz
 have hzz:w.heap.size+2≤wc.heap.size:=by have:=R.lt;omega
 have hcap:=yI hn;clear hx hn
 cases hp:M.bs a b l with
 | false=>
  have hfin:=yI fun W=>hno W (M.wD hp)
  rw [hp] at PL;replace PL:=yI PL;clear hno;generalize hq:M.eM a b l=ok at *;obtain rfl:ok=false:=hq.symm.trans (M.wD hp);clear hq hp;generalize M.BV a b l=d,M.BW a b l=n at *;go_enter Tryz.func44,Tryz.ntmps44
  go_wp2_with (go_at_call 60;(refine (PL.out _ hxc.out).mono ?_);rintro e w4 ⟨rfl,hb4⟩;replace B:=f_ B hb4;replace R:=R.keep hb4;(have ⟨r0,r1,r2,r3,r4⟩:=R.aw);(have ⟨r5,r6,r7,r8,r9,_⟩:=R.dz))
  exact bodyPost_ret (v:=.tuple #[.agg #[.int .i64 0,.int .i64 0,.slice none 0 0,.int .i64 0,.int .i64 0],.bool false]) (by simp [results,Tryz.results44,go_sem, *]) rfl (⟨.slice none 0 0,by rw [(hfin.out w).1],(hfin.out _).2,yK (yK (yK (yK (yK B (by simp) _) (by simp) _) (by simp) _) (by simp) _) (by simp) _⟩)
 | true=>
 rw [hp] at PL;have hmk:=M.tu hp;obtain ⟨hg,h1,hn,hpt⟩:=M.cP hp
 have RG:=fun W h=>kk a b (.slice sa l.length cap) l W h hg h1 hn hpt
 have hok:M.eM a b l=((M.dA a b l).isSome && decide (M.zA (M.dA a b l) > 0)):=by rw [hmk,M.uw M.qV];rfl
 have hN:M.BW a b l=M.zA (M.dA a b l):=rfl;have hD:M.BV a b l=M.zB (M.dA a b l):=rfl;rw [hN,hD] at hno ⊢;clear hmk hN hD hg h1 hn hpt hp;generalize M.dA a b l=rs,M.eM a b l=ok at *;generalize M.zH rs=n4,M.zD rs=n3,M.zB rs=d,M.zA rs=n,rs.isSome=fl at *;replace RG:=yI RG;replace PL:=yI PL;replace hno:=yI hno
 cases fl with
 | false=>
  obtain rfl:ok=false:=hok
  have hfin:=yI fun W=>hno.out W rfl
  clear hno;go_enter Tryz.func44,Tryz.ntmps44
  go_wp2_with first | (go_at_call 60;(refine (PL.out _ hxc.out).mono ?_);rintro e w3 ⟨rfl,hb3⟩;have hz3:=hb3.size;replace B:=f_ B hb3;replace R:=R.keep hb3;replace C:=C.keep hb3;have hxd:=yI (hxc.out.below hb3);clear j_ l_;have j_:=C.box.c0;have l_:=C.box.c1) | (go_at_call 33;(refine (RG.out _ hxd.out).mono ?_);rintro e w4 ⟨rfl,hb4⟩;have Ba:=(yL w4.heap.size w4).alloc (yM _) (.cells #[.int .i64 n,.int .i64 d,.int .i64 n3,.int .i64 n4] 64);have S:=aH.new w4 #[.int .i64 n,.int .i64 d,.int .i64 n3,.int .i64 n4] 64;have Ab:=hb4.size;replace B:=(f_ B hb4).trans (Ba.mono (Nat.le_trans B.size hb4.size));replace R:=(R.keep hb4).keep Ba;replace C:=(C.keep hb4).keep Ba;(have ⟨s0,_,_,_,_,_,_,_,_⟩:=S.aM);(have ⟨r0,r1,r2,r3,r4⟩:=R.aw);(have ⟨r5,r6,r7,r8,r9,_⟩:=R.dz))
  exact bodyPost_ret (v:=.tuple #[.agg #[.int .i64 0,.int .i64 0,.slice none 0 0,.int .i64 0,.int .i64 0],.bool false]) (by simp [results,Tryz.results44,go_sem, *]) rfl (⟨.slice none 0 0,by rw [(hfin.out w).1],(hfin.out _).2,yK (yK (yK (yK (yK B (by simp) _) (by simp) _) (by simp) _) (by simp) _) (by simp) _⟩)
 | true=>
 by_cases hpos:n > 0
 ·have hd:decide (n≤0)=false:=decide_eq_false (by omega)
  obtain rfl:ok=true:=hok.trans (decide_eq_true hpos);clear hok hno;go_enter Tryz.func44,Tryz.ntmps44
  go_upto_region 6 with first | (go_at_call 60;(refine (PL.out _ hxc.out).mono ?_);rintro e w3 ⟨rfl,hb3⟩;have hz3:=hb3.size;replace B:=f_ B hb3;replace R:=R.keep hb3;replace C:=C.keep hb3;have hxd:=yI (hxc.out.below hb3);clear j_ l_;have j_:=C.box.c0;have l_:=C.box.c1) | (go_at_call 33;(refine (RG.out _ hxd.out).mono ?_);rintro e w4 ⟨rfl,hb4⟩;have Ba:=(yL w4.heap.size w4).alloc (yM _) (.cells #[.int .i64 n,.int .i64 d,.int .i64 n3,.int .i64 n4] 64);have S:=aH.new w4 #[.int .i64 n,.int .i64 d,.int .i64 n3,.int .i64 n4] 64;have Ab:=hb4.size;replace B:=(f_ B hb4).trans (Ba.mono (Nat.le_trans B.size hb4.size));replace R:=(R.keep hb4).keep Ba;replace C:=(C.keep hb4).keep Ba;(have ⟨s0,_,_,_,_,_,_,_,_⟩:=S.aM);(have ⟨r0,r1,r2,r3,r4⟩:=R.aw);(have ⟨r5,r6,r7,r8,r9,_⟩:=R.dz);have J0:=yI (Ae.mk B C S R (by omega) (by omega) (by omega) (show w.heap.size+1<w4.heap.size+1 by omega) (by rw [yJ];omega)))
  refine Rg.ke (fun k v W=>gO w w.heap.size w4.heap.size (w.heap.size+1) (w4.heap.size+1) a b n d 64 #[.int .i64 n,.int .i64 d,.int .i64 n3,.int .i64 n4] l k v W) [1,3,6,7] [.agg #[.int .i64 a,.int .i64 b],undef,.slice sa l.length cap,undef,.pointer (some ⟨w4.heap.size,0,none⟩),.agg #[.int .i64 n,.int .i64 d],undef,undef,.bool true] (by kernel_rfl) (by kernel_rfl) (by kernel_rfl) (by decide) (fun k v v2 W h hj=>gO.congr (h 1 (by decide)) (h 3 (by decide)) (h 6 (by decide)) hj) (fun _=>J0.out.keep (yL _ _).drew) ⟨?_,?_,?_,?_,?_,?_,?_,?_,?_,trivial⟩ ?_
  ·unfold Rg.aV
   rw [if_neg (by decide)];intro zZ w_ n_ i_ yv hJ hr;refine ⟨rfl,?_⟩;have e2:zZ.tmps[2]?=some (.pointer (some ⟨w.heap.size,0,none⟩)):=hr 2 (by decide);obtain ⟨FO,hs_⟩:=gO.st hJ;have k0:=hs_.C.box.c0;have k1:=hs_.C.box.c1
   (first | (go_simp;done) | (go_simp;exact Rg.wr (by omega) (by omega)) | (go_simp;omega) | (go_simp;rfl))
  ·unfold Rg.aV
   rw [if_pos (by decide)];intro zZ w_ i_ hJ hr;refine ⟨rfl,?_⟩;have zC:Ae w w.heap.size w4.heap.size (w.heap.size+1) (w4.heap.size+1) a b 64 #[.int .i64 n,.int .i64 d,.int .i64 n3,.int .i64 n4] #[.int .i64 0,.int .i64 0,.slice none 0 0,.int .i64 0,.int .i64 0] w_:=hJ;refine Rg.rM (x:=.slice (some ⟨w_.heap.size,0,none⟩) 0 0) (ob:=.cells #[] 57) (by (first | (go_simp;done) | (go_simp;exact Rg.wr (by omega) (by omega)) | (go_simp;omega) | (go_simp;rfl))) ?_;exact ⟨zC.keep (bA _ _),Rw.Own.pR yU w_ _ zC.hb⟩
  ·unfold Rg.aV
   rw [if_neg (by decide)];intro zZ w_ n_ i_ yv hJ hr;refine ⟨rfl,?_⟩;have e1:zZ.tmps[1]?=some (.slice sa l.length cap):=hr 1 (by decide)
   go_simp
  ·unfold Rg.aV
   rw [if_pos (by decide)];intro zZ w_ i_ hJ hr;have e29:zZ.tmps[29]?=some (i_ 1):=hr 29 (by decide);have e30:zZ.tmps[30]?=some (.slice sa l.length cap):=hr 30 (by decide);refine ⟨rfl,?_⟩;obtain ⟨zC,yp⟩:Ae w w.heap.size w4.heap.size (w.heap.size+1) (w4.heap.size+1) a b 64 #[.int .i64 n,.int .i64 d,.int .i64 n3,.int .i64 n4] #[.int .i64 0,.int .i64 0,.slice none 0 0,.int .i64 0,.int .i64 0] w_∧Rw.Own yU w_ (w4.heap.size+1) (i_ 1) []:=hJ
   obtain ⟨A_,c_,q_,L_⟩:=(Hx.out.below zC.B).from'
   injection q_ with CE Cj DJ
   subst CE DJ;obtain ⟨v_,Ix,CE,Cj,DJ,Ii⟩:=Rw.gM j6 (W:=w_) (base:=(w4.heap.size+1)) 31 l sa cap (L_ _ (yL _ _)) yp (yL _ _) zC.hb (by have:=hcap.out;simp only [List.length_nil];omega);refine Rg.iH (x:=v_) (w2:=Ix) (Rg.fI rfl (Rg.ev e29) (Rg.ev e30) CE) ?_;exact ⟨zC.grown yp Ii mw jb gX,Cj⟩
  ·unfold Rg.aV
   rw [if_neg (by decide)];intro zZ w_ n_ i_ yv hJ hr;refine ⟨rfl,?_⟩;have e6:zZ.tmps[6]?=some (.pointer (some ⟨w4.heap.size,0,none⟩)):=hr 6 (by decide)
   (first | (go_simp;done) | (go_simp;exact Rg.wr (by omega) (by omega)) | (go_simp;omega) | (go_simp;rfl))
  ·unfold Rg.aV
   rw [if_neg (by decide)];intro zZ w_ n_ i_ yv hJ hr;refine ⟨rfl,?_⟩;have e32:zZ.tmps[32]?=some (.pointer (some ⟨w4.heap.size,0,none⟩)):=hr 32 (by decide);obtain ⟨FO,hs_⟩:=gO.st hJ;have ⟨k0,k1,_,_,_,_,_,_,_⟩:=hs_.F.aM
   (first | (go_simp;done) | (go_simp;exact Rg.wr (by omega) (by omega)) | (go_simp;omega) | (go_simp;rfl))
  ·unfold Rg.aV
   rw [if_pos (by decide)];intro zZ w_ i_ hJ hr;have e28:zZ.tmps[28]?=some (.agg #[.int .i64 a,.int .i64 b]):=hr 28 (by decide);have e31:zZ.tmps[31]?=some (i_ 3):=hr 31 (by decide);have e33:zZ.tmps[33]?=some (.agg #[.int .i64 n,.int .i64 d]):=hr 33 (by decide);refine ⟨rfl,?_⟩;obtain ⟨zC,yp⟩:Ae w w.heap.size w4.heap.size (w.heap.size+1) (w4.heap.size+1) a b 64 #[.int .i64 n,.int .i64 d,.int .i64 n3,.int .i64 n4] #[.int .i64 0,.int .i64 0,.slice none 0 0,.int .i64 0,.int .i64 0] w_∧Rw.Own yU w_ (w4.heap.size+1) (i_ 3) l:=hJ;obtain ⟨A_,c_,q_⟩:=BH yp.seen.pts;rw [q_] at e31;refine Rg.iH (x:=.agg #[.int .i64 a,.int .i64 b,.slice A_ l.length c_,.int .i64 n,.int .i64 d]) (w2:=w_) (by (first | (go_simp;done) | (go_simp;exact Rg.wr (by omega) (by omega)) | (go_simp;omega) | (go_simp;rfl))) ?_;exact ⟨⟨zC,yp⟩,by show Value.agg _=Value.agg #[.int .i64 a,.int .i64 b,(i_ 3),.int .i64 n,.int .i64 d];rw [q_]⟩
  ·unfold Rg.aV
   rw [if_pos (by decide)];intro zZ w_ i_ hJ hr;have e4:zZ.tmps[4]?=some (.pointer (some ⟨w.heap.size+1,0,none⟩)):=hr 4 (by decide);have e34:zZ.tmps[34]?=some (i_ 6):=hr 34 (by decide);refine ⟨rfl,?_⟩;have hJ:eS 3 6 w w.heap.size w4.heap.size (w.heap.size+1) (w4.heap.size+1) a b n d 64 #[.int .i64 n,.int .i64 d,.int .i64 n3,.int .i64 n4] l 2 i_ w_:=hJ;obtain ⟨⟨zC,yp⟩,Hh⟩:(Ae w w.heap.size w4.heap.size (w.heap.size+1) (w4.heap.size+1) a b 64 #[.int .i64 n,.int .i64 d,.int .i64 n3,.int .i64 n4] #[.int .i64 0,.int .i64 0,.slice none 0 0,.int .i64 0,.int .i64 0] w_∧Rw.Own yU w_ (w4.heap.size+1) (i_ 3) l)∧i_ 6=.agg #[.int .i64 a,.int .i64 b,i_ 3,.int .i64 n,.int .i64 d]:=hJ;obtain ⟨A_,c_,q_⟩:=BH yp.seen.pts;have Ce:=eS.store (v':=Rg.cU i_ 7 undef) hJ q_.symm rfl rfl;rw [Hh,q_] at e34;have ⟨y0,y1,y2,y3,y4⟩:=zC.R.aw;have ⟨y5,y6,y7,y8,y9,_⟩:=zC.R.dz;clear zC yp hJ Hh q_;unfold Oper.wp
   go_simp
   all_goals first | exact ⟨undef,Ce⟩ | exact ⟨_,rfl,Ce⟩ | exact Ce
  ·unfold Rg.aV
   rw [if_neg (by decide)];intro zZ w_ n_ i_ yv hJ hr;refine ⟨rfl,?_⟩;have ec:=Rg.ec zZ
   go_simp
  intro vals wz hJ hv;have CG:vals 8=.bool true:=hv 8 (by decide) (by decide);simp only [Rg.ak,Rg.fill,Act.put,Nat.reduceAdd];clear hv;simp only [CG];clear CG;obtain ⟨⟨hS,hO⟩,hE⟩:(Ae w w.heap.size w4.heap.size (w.heap.size+1) (w4.heap.size+1) a b 64 #[.int .i64 n,.int .i64 d,.int .i64 n3,.int .i64 n4] #[.int .i64 a,.int .i64 b,vals 3,.int .i64 n,.int .i64 d] wz∧Rw.Own yU wz (w4.heap.size+1) (vals 3) l)∧vals 6=.agg #[.int .i64 a,.int .i64 b,vals 3,.int .i64 n,.int .i64 d]:=hJ;obtain ⟨A2,c2,q2⟩:=BH hO.seen.pts;rw [q2] at hS hO;rw [hE,q2];have R2:=hS.R;have ⟨r0,r1,r2,r3,r4⟩:=R2.aw;have BB:=hS.B;have hO:=yI (hO.down (base':=w.heap.size) (by omega));clear J0 hS hE;go_wp2;exact bodyPost_ret (v:=.tuple #[.agg #[.int .i64 a,.int .i64 b,.slice A2 l.length c2,.int .i64 n,.int .i64 d],.bool true]) (by simp [results,Tryz.results44,go_sem, *]) rfl (⟨_,rfl,hO.out,BB⟩)
 have hd:decide (n≤0)=true:=decide_eq_true (by omega);obtain rfl:ok=false:=hok.trans (decide_eq_false hpos)
 have hfin:=yI fun W=>hno.out W rfl
 clear hok hno;go_enter Tryz.func44,Tryz.ntmps44
 go_wp2_with first | (go_at_call 60;(refine (PL.out _ hxc.out).mono ?_);rintro e w3 ⟨rfl,hb3⟩;have hz3:=hb3.size;replace B:=f_ B hb3;replace R:=R.keep hb3;replace C:=C.keep hb3;have hxd:=yI (hxc.out.below hb3);clear j_ l_;have j_:=C.box.c0;have l_:=C.box.c1) | (go_at_call 33;(refine (RG.out _ hxd.out).mono ?_);rintro e w4 ⟨rfl,hb4⟩;have Ba:=(yL w4.heap.size w4).alloc (yM _) (.cells #[.int .i64 n,.int .i64 d,.int .i64 n3,.int .i64 n4] 64);have S:=aH.new w4 #[.int .i64 n,.int .i64 d,.int .i64 n3,.int .i64 n4] 64;have Ab:=hb4.size;replace B:=(f_ B hb4).trans (Ba.mono (Nat.le_trans B.size hb4.size));replace R:=(R.keep hb4).keep Ba;replace C:=(C.keep hb4).keep Ba;(have ⟨s0,_,_,_,_,_,_,_,_⟩:=S.aM);(have ⟨r0,r1,r2,r3,r4⟩:=R.aw);(have ⟨r5,r6,r7,r8,r9,_⟩:=R.dz))
 exact bodyPost_ret (v:=.tuple #[.agg #[.int .i64 0,.int .i64 0,.slice none 0 0,.int .i64 0,.int .i64 0],.bool false]) (by simp [results,Tryz.results44,go_sem, *]) rfl (⟨.slice none 0 0,by rw [(hfin.out w).1],(hfin.out _).2,yK (yK (yK (yK (yK B (by simp) _) (by simp) _) (by simp) _) (by simp) _) (by simp) _⟩)
theorem Rg.ff {a:Bool} {p:Prop} (h:a=false) (h':a=true):p:=by rw [h] at h';cases h'
theorem Rg.tf {a:Bool} {p:Prop} (h:a=true) (h':a=false):p:=by rw [h] at h';cases h'
namespace M
noncomputable def cQ (g:Bool) (a b:Int) (l:List Pt):Bool:=g && eM a b l
theorem qk {g:Bool} {a b:Int} {l:List Pt} (h:g=false):cQ g a b l=false:=by unfold cQ;rw [h];rfl
theorem ud {g:Bool} {a b:Int} {l:List Pt} (h:g=true):cQ g a b l=eM a b l:=by unfold cQ;rw [h];rfl
theorem xL {g:Bool} {a b:Int} {l:List Pt}:(if cQ g a b l=true then l else []).length≤4:=by
 split
 ·rename_i h
  unfold cQ eM at h;rw [Bool.and_eq_true,Bool.and_eq_true] at h;exact (M.cP h.2.1).2.2.1
 simp
end M
structure zv (w:World) (gc gp gr base:Nat) (T1:TypeId) (cs:Array Value) (T2:TypeId) (ps zs:Array Value) (W:World):Prop where
 B:Below w.heap.size w W
 C:aH W gc T1 cs
 P:aH W gp T2 ps
 R:aH W gr 47 zs
 hc:gc≠gr
 hp:gp≠gr
 hr:w.heap.size≤gr
 lc:gc<base
 lp:gp<base
 lr:gr<base
 hb:base≤W.heap.size
namespace zv
variable {w:World} {gc gp gr base:Nat} {T1 T2:TypeId} {cs ps zs:Array Value} {W W':World}
theorem keep (h:zv w gc gp gr base T1 cs T2 ps zs W) (hb:Below W.heap.size W W'):zv w gc gp gr base T1 cs T2 ps zs W':=
 ⟨h.B.trans (hb.mono h.B.size),h.C.keep hb,h.P.keep hb,h.R.keep hb,h.hc,h.hp,h.hr,h.lc,h.lp,h.lr,Nat.le_trans h.hb hb.size⟩
theorem grown {v:Value} {l:List Pt} (h:zv w gc gp gr base T1 cs T2 ps zs W) (ho:Rw.Own yU W base v l) (hg:W.grownBy W' v.ownBlock):zv w gc gp gr base T1 cs T2 ps zs W':=by
 have far:∀ {g:Nat} {T:TypeId} {xs:Array Value},g<base→aH W g T xs→aH W' g T xs:=fun hl hv=>(hg.block _ hv.lt (fun e=>by
  have:=(ho.lt _ e.symm).1
  omega)).trans hv
 exact ⟨h.B.grown hg h.B.size (fun k hk=>Nat.le_trans h.hr (Nat.le_of_lt (Nat.lt_of_lt_of_le h.lr (ho.lt k hk).1))),far h.lc h.C,far h.lp h.P,far h.lr h.R,h.hc,h.hp,h.hr,h.lc,h.lp,h.lr,Nat.le_trans h.hb hg.size⟩
theorem put {x1 x2 x3 x4 x5:Value} (h:zv w gc gp gr base T1 cs T2 ps #[x1,x2,x3,x4,x5] W) (y1 y2 y3 y4 y5:Value):zv w gc gp gr base T1 cs T2 ps #[y1,y2,y3,y4,y5] (((((W.setCell ⟨gr,0,none⟩ y1).setCell ⟨gr,1,none⟩ y2).setCell ⟨gr,2,none⟩ y3).setCell ⟨gr,3,none⟩ y4).setCell ⟨gr,4,none⟩ y5):=
 ⟨yK (yK (yK (yK (yK h.B h.hr _) h.hr _) h.hr _) h.hr _) h.hr _,((((h.C.other h.hc _).other h.hc _).other h.hc _).other h.hc _).other h.hc _,((((h.P.other h.hp _).other h.hp _).other h.hp _).other h.hp _).other h.hp _,h.R.xx ..,h.hc,h.hp,h.hr,h.lc,h.lp,h.lr,by simp only [gU];exact h.hb⟩
end zv
structure DQ (W0:World) (ps:List Pt) (p:Pt) (l:Nat→Bool) (v:Nat→Value) (w:World):Prop where
 B:Below W0.heap.size W0 w
 c:l 2=true→l 5=false→Rw.Own yU w W0.heap.size (v 2) ps
 t:l 4=true→l 5=false→∃ H,v 4=.slice (some ⟨H,0,none⟩) 1 1∧H<w.heap.size∧Rw.From yU w (some ⟨H,0,none⟩) [p]
 a:l 5=true→Rw.Own yU w W0.heap.size (v 5) (ps ++ [p])
 m:l 6=true→Rw.Own yU w W0.heap.size (v 6) (ps ++ [p])
namespace DQ
variable {W0:World} {ps:List Pt} {p:Pt} {l l':Nat→Bool} {v v':Nat→Value} {w w':World}
theorem start:DQ W0 ps p (fun _=>false) v { W0 with drawn:=W0.drawn+1 } where
 B:=(yL _ _).drew
 c:=fun h=>by cases h
 t:=fun h=>by cases h
 a:=fun h=>by cases h
 m:=fun h=>by cases h
theorem congr (h:∀ i ∈ [2,4,5,6],l i=l' i∧v i=v' i) (j:DQ W0 ps p l v w):DQ W0 ps p l' v' w:=by
 have h2:=h 2 (by simp);have h3:=h 4 (by simp);have h4:=h 5 (by simp);have h5:=h 6 (by simp);obtain ⟨jB,jc,jt,ja,jm⟩:=j;rw [h2.1,h2.2,h4.1] at jc;rw [h3.1,h3.2,h4.1] at jt;rw [h4.1,h4.2] at ja;rw [h5.1,h5.2] at jm;exact ⟨jB,jc,jt,ja,jm⟩
theorem keep (j:DQ W0 ps p l v w) (hb:Below w.heap.size w w'):DQ W0 ps p l v w' where
 B:=j.B.trans (hb.mono j.B.size)
 c:=fun h1 h2=>(j.c h1 h2).below hb
 t:=fun h1 h2=>by
  obtain ⟨H,e,hH,hf⟩:=j.t h1 h2;exact ⟨H,e,Nat.lt_of_lt_of_le hH hb.size,hf.keep hH hb⟩
 a:=fun h1=>(j.a h1).below hb
 m:=fun h1=>(j.m h1).below hb
theorem lit (j:DQ W0 ps p l v w):DQ W0 ps p (Rg.upd l 4) (Rg.cU v 4 (.slice (some ⟨w.heap.size,0,none⟩) 1 1)) (w.alloc (.cells #[.int .i64 p.1,.int .i64 p.2.1,.int .i64 p.2.2] 57)) where
 B:=(j.keep (bA w _)).B
 c:=(j.keep (bA w _)).c
 t:=fun _ _=>⟨w.heap.size,rfl,by simp,Rw.From.lit yU w p _ rfl⟩
 a:=(j.keep (bA w _)).a
 m:=(j.keep (bA w _)).m
theorem take (j:DQ W0 ps p l v w) (h5:l 5=true):DQ W0 ps p (Rg.upd l 6) (Rg.cU v 6 (v 5)) w where
 B:=j.B
 c:=j.c
 t:=j.t
 a:=j.a
 m:=fun _=>j.a h5
end DQ
structure CO (w0:World) (gc gp gr base:Nat) (T1:TypeId) (cs:Array Value) (T2:TypeId) (qs:Array Value) (ps:List Pt) (p:Pt) (x1 x2 x3 x4:Int) (ok:Bool) (L:List Pt) (l:Nat→Bool) (v:Nat→Value) (w:World):Prop where
 B:Below w0.heap.size w0 w
 S:∃ zs,zv w0 gc gp gr base T1 cs T2 qs zs w
 R:l 12=false→zv w0 gc gp gr base T1 cs T2 qs #[.int .i64 0,.int .i64 0,.slice none 0 0,.int .i64 0,.int .i64 0] w
 e:l 2=true→l 5=false→Rw.Own yU w base (v 2) []
 c:l 5=true→l 8=false→Rw.Own yU w base (v 5) ps
 t:l 7=true→l 8=false→∃ H,v 7=.slice (some ⟨H,0,none⟩) 1 1∧H<w.heap.size∧Rw.From yU w (some ⟨H,0,none⟩) [p]∧(l 2=true→l 5=false→(v 2).ownBlock≠some H)
 a:l 8=true→l 9=false→Rw.Own yU w base (v 8) (ps ++ [p])
 r:l 9=true→∃ u,v 9=.tuple #[.agg #[.int .i64 x1,.int .i64 x2,u,.int .i64 x3,.int .i64 x4],.bool ok]∧Rw.Own yU w base u L
 x:l 10=true→∃ u,v 10=.agg #[.int .i64 x1,.int .i64 x2,u,.int .i64 x3,.int .i64 x4]∧Rw.Own yU w base u L
 s:l 12=true→∃ u,zv w0 gc gp gr base T1 cs T2 qs #[.int .i64 x1,.int .i64 x2,u,.int .i64 x3,.int .i64 x4] w∧Rw.Own yU w base u L
namespace CO
variable {w0:World} {gc gp gr base:Nat} {T1 T2:TypeId} {cs qs:Array Value} {ps:List Pt} {p:Pt} {x1 x2 x3 x4:Int} {ok:Bool} {L:List Pt} {l l':Nat→Bool} {v v':Nat→Value} {w w':World}
theorem start (h:zv w0 gc gp gr base T1 cs T2 qs #[.int .i64 0,.int .i64 0,.slice none 0 0,.int .i64 0,.int .i64 0] w):CO w0 gc gp gr base T1 cs T2 qs ps p x1 x2 x3 x4 ok L (fun _=>false) v w where
 B:=h.B
 S:=⟨_,h⟩
 R:=fun _=>h
 e:=fun h=>by cases h
 c:=fun h=>by cases h
 t:=fun h=>by cases h
 a:=fun h=>by cases h
 r:=fun h=>by cases h
 x:=fun h=>by cases h
 s:=fun h=>by cases h
theorem congr (h:∀ i ∈ [2,5,7,8,9,10,12],l i=l' i∧v i=v' i) (j:CO w0 gc gp gr base T1 cs T2 qs ps p x1 x2 x3 x4 ok L l v w):CO w0 gc gp gr base T1 cs T2 qs ps p x1 x2 x3 x4 ok L l' v' w:=by
 have h2:=h 2 (by simp);have h5:=h 5 (by simp);have h7:=h 7 (by simp);have h8:=h 8 (by simp);have h9:=h 9 (by simp);have hx:=h 10 (by simp);have hs:=h 12 (by simp);obtain ⟨jB,jS,jR,je,jc,jt,ja,jr,jx,js⟩:=j;rw [hs.1] at jR js;rw [h2.1,h2.2,h5.1] at je;rw [h5.1,h5.2,h8.1] at jc;rw [h7.1,h7.2,h8.1,h2.1,h2.2,h5.1] at jt;rw [h8.1,h8.2,h9.1] at ja;rw [h9.1,h9.2] at jr;rw [hx.1,hx.2] at jx;exact ⟨jB,jS,jR,je,jc,jt,ja,jr,jx,js⟩
theorem keep (j:CO w0 gc gp gr base T1 cs T2 qs ps p x1 x2 x3 x4 ok L l v w) (hb:Below w.heap.size w w'):CO w0 gc gp gr base T1 cs T2 qs ps p x1 x2 x3 x4 ok L l v w' where
 B:=j.B.trans (hb.mono j.B.size)
 S:=by
  obtain ⟨zs,h⟩:=j.S;exact ⟨zs,h.keep hb⟩
 R:=fun h=>(j.R h).keep hb
 e:=fun h1 h2=>(j.e h1 h2).below hb
 c:=fun h1 h2=>(j.c h1 h2).below hb
 t:=fun h1 h2=>by
  obtain ⟨H,e,hH,hf,hn⟩:=j.t h1 h2;exact ⟨H,e,Nat.lt_of_lt_of_le hH hb.size,hf.keep hH hb,hn⟩
 a:=fun h1 h2=>(j.a h1 h2).below hb
 r:=fun h1=>by
  obtain ⟨u,e,ho⟩:=j.r h1;exact ⟨u,e,ho.below hb⟩
 x:=fun h1=>by
  obtain ⟨u,e,ho⟩:=j.x h1;exact ⟨u,e,ho.below hb⟩
 s:=fun h1=>by
  obtain ⟨u,e,ho⟩:=j.s h1;exact ⟨u,e.keep hb,ho.below hb⟩
theorem fill {u:Value} (j:CO w0 gc gp gr base T1 cs T2 qs ps p x1 x2 x3 x4 ok L l v w) (h2:l 2=true) (h5:l 5=false) (h8:l 8=false) (h9:l 9=false) (h10:l 10=false) (h12:l 12=false) (hg:w.grownBy w' (v 2).ownBlock) (hu:Rw.Own yU w' base u ps):CO w0 gc gp gr base T1 cs T2 qs ps p x1 x2 x3 x4 ok L (Rg.upd l 5) (Rg.cU v 5 u) w' where
 B:=((j.R h12).grown (j.e h2 h5) hg).B
 S:=⟨_,(j.R h12).grown (j.e h2 h5) hg⟩
 R:=fun _=>(j.R h12).grown (j.e h2 h5) hg
 e:=fun _ h=>by cases h
 c:=fun _ _=>hu
 t:=fun h1 h3=>by
  obtain ⟨H,e,hH,hf,hn⟩:=j.t h1 h3;refine ⟨H,e,Nat.lt_of_lt_of_le hH hg.size,?_,fun _ h=>by cases h⟩;intro i x hx;obtain ⟨ad,q1,q2⟩:=hf i x hx;obtain rfl:=Option.some.inj q1
  have hblk:((⟨H,0,none⟩:Addr).add i).block=H:=by unfold Addr.add;split <;> rfl
  exact ⟨_,rfl,hg.cell q2 (by rw [hblk];exact fun q=>hn h2 h5 q.symm)⟩
 a:=fun h=>Rg.ff h8 h
 r:=fun h=>Rg.ff h9 h
 x:=fun h=>Rg.ff h10 h
 s:=fun h=>Rg.ff h12 h
theorem lit (j:CO w0 gc gp gr base T1 cs T2 qs ps p x1 x2 x3 x4 ok L l v w):CO w0 gc gp gr base T1 cs T2 qs ps p x1 x2 x3 x4 ok L (Rg.upd l 7) (Rg.cU v 7 (.slice (some ⟨w.heap.size,0,none⟩) 1 1)) (w.alloc (.cells #[.int .i64 p.1,.int .i64 p.2.1,.int .i64 p.2.2] 57)) where
 B:=(j.keep (bA w _)).B
 S:=(j.keep (bA w _)).S
 R:=(j.keep (bA w _)).R
 e:=(j.keep (bA w _)).e
 c:=(j.keep (bA w _)).c
 t:=fun _ _=>⟨w.heap.size,rfl,by simp,Rw.From.lit yU w p _ rfl,fun h1 h2 q=>by
  have:=((j.e h1 h2).lt _ q).2
  omega⟩
 a:=(j.keep (bA w _)).a
 r:=(j.keep (bA w _)).r
 x:=(j.keep (bA w _)).x
 s:=(j.keep (bA w _)).s
theorem take {u:Value} (j:CO w0 gc gp gr base T1 cs T2 qs ps p x1 x2 x3 x4 ok L l v w) (hu:Rw.Own yU w base u L):CO w0 gc gp gr base T1 cs T2 qs ps p x1 x2 x3 x4 ok L (Rg.upd l 10) (Rg.cU v 10 (.agg #[.int .i64 x1,.int .i64 x2,u,.int .i64 x3,.int .i64 x4])) w where
 B:=j.B
 S:=j.S
 R:=j.R
 e:=j.e
 c:=j.c
 t:=j.t
 a:=j.a
 r:=j.r
 x:=fun _=>⟨u,rfl,hu⟩
 s:=j.s
theorem put {u y:Value} (j:CO w0 gc gp gr base T1 cs T2 qs ps p x1 x2 x3 x4 ok L l v w) (h5:l 5=true) (h8:l 8=true) (h9:l 9=true) (h12:l 12=false) (hu:Rw.Own yU w base u L):CO w0 gc gp gr base T1 cs T2 qs ps p x1 x2 x3 x4 ok L (Rg.upd l 12) (Rg.cU v 12 y) (((((w.setCell ⟨gr,0,none⟩ (.int .i64 x1)).setCell ⟨gr,1,none⟩ (.int .i64 x2)).setCell ⟨gr,2,none⟩ u).setCell ⟨gr,3,none⟩ (.int .i64 x3)).setCell ⟨gr,4,none⟩ (.int .i64 x4)) where
 B:=((j.R h12).put ..).B
 S:=⟨_,(j.R h12).put ..⟩
 R:=fun h=>by cases h
 e:=fun _ h=>Rg.tf h5 h
 c:=fun _ h=>Rg.tf h8 h
 t:=fun _ h=>Rg.tf h8 h
 a:=fun _ h=>Rg.tf h9 h
 r:=fun h=>by
  obtain ⟨u,e,ho⟩:=j.r h;exact ⟨u,e,ho.rj (j.R h12).lr ..⟩
 x:=fun h=>by
  obtain ⟨u,e,ho⟩:=j.x h;exact ⟨u,e,ho.rj (j.R h12).lr ..⟩
 s:=fun _=>⟨u,(j.R h12).put ..,hu.rj (j.R h12).lr ..⟩
end CO
theorem yH {k:Bool} (h:k=false) (a b n d:Int) (L:List Pt):(Value.tuple #[.agg #[.int .i64 0,.int .i64 0,.slice none 0 0,.int .i64 0,.int .i64 0],.bool false])=.tuple #[.agg #[.int .i64 (M.pick k a),.int .i64 (M.pick k b),.slice none 0 0,.int .i64 (M.pick k n),.int .i64 (M.pick k d)],.bool k]∧(if k=true then L else [])=[]:=by
 subst h;exact ⟨rfl,rfl⟩
theorem mb (w:World) (ty:TypeId) (b o c:Nat) (hc:∀ j,j<3→(w.cell? ⟨b,o+j,none⟩).isSome=true) (hf:∀ j,j<3→w.frozen? ⟨b,o+j,none⟩=false) :
  (Builtin.clear_ #[31] ty #[.slice (some ⟨b,o,none⟩) 1 c]).run Tryz.prog w=.ok (.tuple #[]) (w.setCells b o [.int .i64 0,.int .i64 0,.int .i64 0]):=by
 have hv:∀ w,(zeroValue 57).run Tryz.prog w=.ok (.agg #[.int .i64 0,.int .i64 0,.int .i64 0]) w:=fun w=>by kernel_rfl
 have hzc:(Builtin.zeroCells (Value.agg #[.int .i64 0,.int .i64 0,.int .i64 0]).cells 1).toList=[.int .i64 0,.int .i64 0,.int .i64 0]:=by first | kernel_rfl | (simp [Builtin.zeroCells,Value.cells];done) | decide
 have hst:=run_storeCells_cells (P:=Tryz.prog) b o [.int .i64 0,.int .i64 0,.int .i64 0] 0 w (by simpa using hc) (by simpa using hf) (by intro v hv';simp only [List.mem_cons,List.not_mem_nil,or_false] at hv';rcases hv' with rfl | rfl | rfl <;> rfl);simp only [Nat.add_zero] at hst;simp [Builtin.clear_,run_underlying Tryz.underlying31,hv,hzc,hst]
theorem pH (xs:List Pt) (v:Value) (i j:Nat) (w:World) (base:Nat) (hown:Rw.Own yU w base v xs) (hj:j=i+1) (hi:i<xs.length) (hl:xs.length≤1000000) (hbw:base≤w.heap.size) :
  Calls Tryz.prog 49 #[v,.int .i64 i,.int .i64 j] w fun e w'=>∃ v',e=.returned v'∧Rw.Own yU w' base v' (xs.eraseIdx i)∧w.grownBy w' v.ownBlock:=by
 rcases hown.forms with ⟨rfl,rfl⟩ | ⟨g,cap,rfl,hg,hgs,hc,hc2⟩
 ·simp at hi
 obtain ⟨i0,hi0,hz0,hz1,hz2⟩:=info_parts pQ
 obtain ⟨n,hn⟩:∃ n,xs.length=n:=⟨_,rfl⟩
 obtain ⟨news,hnews⟩:∃ news,news=(xs.drop j).flatMap yU.cells:=⟨_,rfl⟩
 have hlen:news.length=(n - j)*3:=by rw [hnews,Rw.bp,List.length_drop,hn];rfl
 have hown':Rw.Own yU w.drew base (.slice (some ⟨g,0,none⟩) xs.length cap) xs:=hown
 obtain ⟨A,hA,hsrc⟩:∃ A:Addr,(if cap=j then some (⟨g,0,none⟩:Addr) else some ⟨g,j*3,none⟩)=some A∧Hid (∀ t u,news[t]?=some u→w.drew.cell? (A.add t)=some u):=by
  by_cases h:cap=j
  ·refine ⟨⟨g,0,none⟩,by simp [h],fun t u hu=>?_⟩
   have h0:news.length=0:=by rw [hlen];omega
   rw [List.length_eq_zero_iff.1 h0] at hu;simp at hu
  refine ⟨⟨g,j*3,none⟩,by simp [h],fun t u hu=>?_⟩;rw [hnews] at hu;obtain ⟨ad,q1,q2⟩:=hown'.vy rfl (hi:=w.drew.heap.size) hgs (yL _ _) j (j*3) rfl t u hu;obtain rfl:=Option.some.inj q1;exact q2
 have s2:Hid (∀ u ∈ news,u.oneCell'=true):=by
  intro u hu;rw [hnews] at hu;exact Rw.gE yU _ u hu
 have hcell:∀ t,t<n*3→(w.drew.cell? ⟨g,t,none⟩).isSome=true∧w.drew.frozen? ⟨g,t,none⟩=false:=by
  intro t ht
  have hlt:t<(xs.flatMap yU.cells).length:=by rw [Rw.bp,hn];exact ht
  obtain ⟨q1,q2⟩:=hown'.cellAt rfl t _ (List.getElem?_eq_getElem hlt);exact ⟨by rw [q1];rfl,q2⟩
 have s3:Hid (∀ t,t<news.length→(w.drew.cell? ⟨g,0+i*3+t,none⟩).isSome=true∧w.drew.frozen? ⟨g,0+i*3+t,none⟩=false):=by
  intro t ht;rw [hlen] at ht;exact hcell _ (by omega)
 obtain ⟨W1,hW1⟩:∃ W1,W1=w.drew.setCells g (0+i*3) news:=⟨_,rfl⟩
 have hpre:Rw.Own yU w.drew base (.slice (some ⟨g,0,none⟩) i cap) (xs.take i):=(hown'.cut rfl (by omega) [] rfl (i*3) rfl).1
 have hown1:Rw.Own yU W1 base (.slice (some ⟨g,0,none⟩) (i+(n - j)) cap) (xs.eraseIdx i)∧w.drew.grownBy W1 (some g):=by
  obtain ⟨v',w',r1,r2,-,r3⟩:=Rw.gM (E:=yU) (xs:=xs.take i) j6 (W:=w.drew) (base:=base) 31 (xs.drop j) (some A) (cap - j) (fun t u hu=>⟨A,rfl,hsrc.out t u (by rw [hnews];exact hu)⟩) hpre (yL _ _) hbw (by rw [List.length_take,List.length_drop];omega);have r4:=run_append_room_cells (P:=Tryz.prog) w.drew 31 31 57 i0 Tryz.underlying31 hi0 g 0 i cap A (n - j) (cap - j) news (by rw [hz1];exact hlen) hsrc.out s2.out (by omega) (fun t ht=>by rw [hz1];exact (s3.out t ht).1) (fun t ht=>by rw [hz1];exact (s3.out t ht).2);rw [List.length_drop,hn] at r1;rw [r1] at r4;rw [hz1] at r4
  injection r4 with r5 r6
  subst r5 r6;rw [hW1];refine ⟨?_,r3⟩;rw [List.eraseIdx_eq_take_drop_succ,←hj];exact r2
 have hm:n - (i+(n - j))=1:=by omega
 have hrow:∀ t,t<3→(W1.cell? ⟨g,(i+(n - j))*3+t,none⟩).isSome=true∧W1.frozen? ⟨g,(i+(n - j))*3+t,none⟩=false:=by
  intro t ht;obtain ⟨ys,k1,-,-⟩:=Rw.fS base g cap xs.length yU.t yU.k news (0+i*3) w.drew _ hown';rw [←hW1] at k1;have hyl:=k1.1
  have hlt:(i+(n - j))*3+t<xs.length*yU.k:=by show _<xs.length*3;omega
  exact ⟨by rw [World.ownsRow.cellAt k1 _ hlt,List.getElem?_eq_getElem (by rw [hyl];exact hlt)];rfl,World.ownsRow.frozenAt k1 _⟩
 have hcl:∀ ty,(Builtin.clear_ #[31] ty #[.slice (some ⟨g,(i+(n - j))*3,none⟩) (n - (i+(n - j))) (cap - (i+(n - j)))]).run Tryz.prog W1=.ok (.tuple #[]) (W1.setCells g ((i+(n - j))*3) [.int .i64 0,.int .i64 0,.int .i64 0]):=fun ty=>by
  rw [hm];exact mb W1 ty g _ _ (fun t ht=>(hrow t ht).1) (fun t ht=>(hrow t ht).2)
 have hle:(xs.eraseIdx i).length=i+(n - j):=by rw [List.length_eraseIdx,if_pos hi,hn];omega
 have hend:Hid (Rw.Own yU (W1.setCells g ((i+(n - j))*3) [.int .i64 0,.int .i64 0,.int .i64 0]) base (.slice (some ⟨g,0,none⟩) (i+(n - j)) cap) (xs.eraseIdx i)∧w.grownBy (W1.setCells g ((i+(n - j))*3) [.int .i64 0,.int .i64 0,.int .i64 0]) (some g)):=yI (by
  have h1:=hown1.1.cut (i:=i+(n - j)) hle.symm (yM _) [.int .i64 0,.int .i64 0,.int .i64 0] (by rw [List.take_of_length_le (by omega)]) ((i+(n - j))*3) rfl
  exact ⟨h1.1,cV (cV (nf (World.grownBy.refl w _) 1) hown1.2) h1.2⟩)
 have s1:Hid (news.length=(n - j)*3):=yI hlen;have hW:Hid (W1=w.drew.setCells g (0+i*3) news):=yI hW1
 have hij:i<j:=by omega
 have hjn:j≤n:=by omega
 have hnc:n≤cap:=by omega
 have hic:i≤cap:=by omega
 have hjc:j≤cap:=by omega
 have hne:¬ cap=i+(n - j):=by omega
 have hne1:¬ cap=i:=by omega
 have hkn:i+(n - j)≤n:=by omega
 have hjH:=yI hj;have hmH:=yI hm;rw [hn];clear hown hown' hown1 hpre hcell hlen hnews hrow hW1 hle hj hm hi hc;replace hcl:=hcl;go_enter Tryz.func49,Tryz.ntmps49
 go_wp2_with fail
 have mixed:Tryz.prog.follows .mixedOrders=true:=by kernel_rfl
 go_region_law_o (refine step_append_room rfl (.tmp 22) (.tmp 25) 31 rfl 57 i0 3 Tryz.underlying31 hi0 hz1 g 0 i cap (by simp [Act.eval,Act.put]) A (n - j) (cap - j) news (by simp [Act.eval,Act.put]) s1.out hsrc.out s2.out (by omega) s3.out ?_;rw [←hW.out])
 go_wp2;go_ret;exact ⟨_,rfl,hend.out.1,hend.out.2⟩
end
end Go.Proofs.YtgfkcoablfjbcaaGreat
