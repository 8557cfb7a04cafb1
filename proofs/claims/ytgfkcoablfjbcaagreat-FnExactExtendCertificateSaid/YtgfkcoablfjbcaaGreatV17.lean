/-
  Joined texts: contracts and plain lemmas.
-/
import Derived.Test.YtgfkcoablfjbcaaGreatV1
import Derived.Test.YtgfkcoablfjbcaaGreatV16
import Derived.Test.YtgfkcoablfjbcaaGreatV13
import Derived.Test.YtgfkcoablfjbcaaGreatV8
set_option linter.unusedSimpArgs false
set_option linter.unusedVariables false
set_option maxRecDepth 100000
set_option maxHeartbeats 8000000
namespace Go.Proofs.YtgfkcoablfjbcaaGreat
section
open Go.RowKit Go.Shelf
theorem aH.iU {α:Type} {E:Rw.Enc α} {w w':World} {g base:Nat} {T:TypeId} {xs:Array Value} {v:Value} {ps:List α} (hv:aH w g T xs) (ho:Rw.Own E w base v ps) (hg:w.grownBy w' v.ownBlock) (hT:T≠E.t):aH w' g T xs:=by
 refine (hg.block g hv.lt fun e=>?_).trans hv
 rcases ho.2 with ⟨rfl,-⟩ | ⟨g',cap,cur,rfl,-,hh,-⟩
 ·simp [Value.ownBlock] at e
 simp only [Value.ownBlock,Option.some.injEq] at e;subst e;unfold aH at hv;rw [hv] at hh
 injection hh with hh
 injection hh with _ h2
 exact hT h2
theorem Rw.From.keep {α:Type} {E:Rw.Enc α} {w w':World} {H:Nat} {ys:List α} (h:Rw.From E w (some ⟨H,0,none⟩) ys) (hH:H<w.heap.size) (hb:Below w.heap.size w w'):Rw.From E w' (some ⟨H,0,none⟩) ys:=by
 intro j u hu;obtain ⟨ad,h1,h2⟩:=h j u hu;obtain rfl:=Option.some.inj h1
 have hblk:((⟨H,0,none⟩:Addr).add j).block=H:=by unfold Addr.add;split <;> rfl
 exact ⟨_,rfl,(hb.cell (p:=(⟨H,0,none⟩:Addr).add j) (by rw [hblk];exact hH)).trans h2⟩
structure Bd (W0:World) (ps:List Pt) (p:Pt) (T:TypeId) (ret:Value) (zs us:Array Value) (l:Nat→Bool) (v:Nat→Value) (w:World):Prop where
 B:Below W0.heap.size W0 w
 c:l 2=true→l 5=false→Rw.Own yY w W0.heap.size (v 2) ps
 t:l 4=true→l 5=false→∃ H,v 4=.slice (some ⟨H,0,none⟩) 1 1∧H<w.heap.size∧Rw.From yY w (some ⟨H,0,none⟩) [p]
 a:l 5=true→l 6=false→Rw.Own yY w W0.heap.size (v 5) (ps ++ [p])
 r:l 6=true→v 6=ret
 n:l 10=true→l 11=false→∃ H,v 10=.pointer (some ⟨H,0,none⟩)∧W0.heap.size≤H∧aH w H T zs
 s:l 11=true→∃ H,v 10=.pointer (some ⟨H,0,none⟩)∧W0.heap.size≤H∧aH w H T us
namespace Bd
variable {W0:World} {ps:List Pt} {p:Pt} {T:TypeId} {ret:Value} {zs us:Array Value} {l l':Nat→Bool} {v v':Nat→Value} {w w':World}
theorem start:Bd W0 ps p T ret zs us (fun _=>false) v { W0 with drawn:=W0.drawn+1 } where
 B:=(yM _ _).drew
 c:=fun h=>by cases h
 t:=fun h=>by cases h
 a:=fun h=>by cases h
 r:=fun h=>by cases h
 n:=fun h=>by cases h
 s:=fun h=>by cases h
theorem congr (h:∀ i ∈ [2,4,5,6,10,11],l i=l' i∧v i=v' i) (j:Bd W0 ps p T ret zs us l v w):Bd W0 ps p T ret zs us l' v' w:=by
 have h1:=h 2 (by simp);have h2:=h 4 (by simp);have h3:=h 5 (by simp);have h4:=h 6 (by simp);have h5:=h 10 (by simp);have h6:=h 11 (by simp);obtain ⟨jB,jc,jt,ja,jr,jn,js⟩:=j;rw [h1.1,h1.2,h3.1] at jc;rw [h2.1,h2.2,h3.1] at jt;rw [h3.1,h3.2,h4.1] at ja;rw [h4.1,h4.2] at jr;rw [h5.1,h5.2,h6.1] at jn;rw [h6.1,h5.2] at js;exact ⟨jB,jc,jt,ja,jr,jn,js⟩
theorem keep (j:Bd W0 ps p T ret zs us l v w) (hb:Below w.heap.size w w'):Bd W0 ps p T ret zs us l v w' where
 B:=j.B.trans (hb.mono j.B.size)
 c:=fun h1 h2=>(j.c h1 h2).below hb
 t:=fun h1 h2=>by
  obtain ⟨H,e,hH,hf⟩:=j.t h1 h2;exact ⟨H,e,Nat.lt_of_lt_of_le hH hb.size,hf.keep hH hb⟩
 a:=fun h1 h2=>(j.a h1 h2).below hb
 r:=j.r
 n:=fun h1 h2=>by
  obtain ⟨H,e,hH,hf⟩:=j.n h1 h2;exact ⟨H,e,hH,hf.keep hb⟩
 s:=fun h1=>by
  obtain ⟨H,e,hH,hf⟩:=j.s h1;exact ⟨H,e,hH,hf.keep hb⟩
theorem clone {u:Value} (j:Bd W0 ps p T ret zs us l v w) (hb:Below w.heap.size w w') (hu:Rw.Own yY w' w.heap.size u ps):Bd W0 ps p T ret zs us (Rg.upd l 2) (Rg.br v 2 u) w' where
 B:=(j.keep hb).B
 c:=fun _ _=>hu.down j.B.size
 t:=(j.keep hb).t
 a:=(j.keep hb).a
 r:=j.r
 n:=(j.keep hb).n
 s:=(j.keep hb).s
theorem lit (j:Bd W0 ps p T ret zs us l v w):Bd W0 ps p T ret zs us (Rg.upd l 4) (Rg.br v 4 (.slice (some ⟨w.heap.size,0,none⟩) 1 1)) (w.alloc (.cells #[.int .i64 p.1,.int .i64 p.2.1,.int .i64 p.2.2] 57)) where
 B:=(j.keep (bA w _)).B
 c:=(j.keep (bA w _)).c
 t:=fun _ _=>⟨w.heap.size,rfl,by simp,Rw.From.lit yY w p _ rfl⟩
 a:=(j.keep (bA w _)).a
 r:=j.r
 n:=(j.keep (bA w _)).n
 s:=(j.keep (bA w _)).s
theorem var (j:Bd W0 ps p T ret zs us l v w) (h11:l 11=false):Bd W0 ps p T ret zs us (Rg.upd l 10) (Rg.br v 10 (.pointer (some ⟨w.heap.size,0,none⟩))) (w.alloc (.cells zs T)) where
 B:=(j.keep (bA w _)).B
 c:=(j.keep (bA w _)).c
 t:=(j.keep (bA w _)).t
 a:=(j.keep (bA w _)).a
 r:=j.r
 n:=fun _ _=>⟨w.heap.size,rfl,j.B.size,aH.new w zs T⟩
 s:=fun h=>by
  have h:l 11=true:=h;rw [h11] at h;cases h
theorem app {u:Value} (j:Bd W0 ps p T ret zs us l v w) (hT:T≠yY.t) (h2:l 2=true) (h5:l 5=false) (h6:l 6=false) (h11:l 11=false) (hg:w.grownBy w' (v 2).ownBlock) (hu:Rw.Own yY w' W0.heap.size u (ps ++ [p])):Bd W0 ps p T ret zs us (Rg.upd l 5) (Rg.br v 5 u) w' where
 B:=j.B.grown hg j.B.size (fun k hk=>((j.c h2 h5).lt k hk).1)
 c:=fun _ h=>by cases h
 t:=fun _ h=>by cases h
 a:=fun _ _=>hu
 r:=fun h=>by
  have h:l 6=true:=h;rw [h6] at h;cases h
 n:=fun h1 hs=>by
  obtain ⟨H,e,hH,hf⟩:=j.n h1 hs;exact ⟨H,e,hH,hf.iU (j.c h2 h5) hg hT⟩
 s:=fun h=>by
  have h:l 11=true:=h;rw [h11] at h;cases h
theorem res (j:Bd W0 ps p T ret zs us l v w) (hb:Below w.heap.size w w'):Bd W0 ps p T ret zs us (Rg.upd l 6) (Rg.br v 6 ret) w' where
 B:=(j.keep hb).B
 c:=(j.keep hb).c
 t:=(j.keep hb).t
 a:=fun _ h=>by cases h
 r:=fun _=>rfl
 n:=(j.keep hb).n
 s:=(j.keep hb).s
theorem put {u:Value} {H:Nat} (j:Bd W0 ps p T ret zs us l v w) (h2:l 2=true) (h4:l 4=true) (h5:l 5=true) (h6:l 6=true) (h10:v 10=.pointer (some ⟨H,0,none⟩)) (hH:W0.heap.size≤H) (hV:aH w' H T us) (hB:Below W0.heap.size W0 w'):Bd W0 ps p T ret zs us (Rg.upd l 11) (Rg.br v 11 u) w' where
 B:=hB
 c:=fun _ h=>by
  have h:l 5=false:=h;rw [h5] at h;cases h
 t:=fun _ h=>by
  have h:l 5=false:=h;rw [h5] at h;cases h
 a:=fun _ h=>by
  have h:l 6=false:=h;rw [h6] at h;cases h
 r:=j.r
 n:=fun _ h=>by cases h
 s:=fun _=>⟨H,h10,hH,hV⟩
end Bd
structure Cc (W0:World) (ps:List Pt) (p:Pt) (l:Nat→Bool) (v:Nat→Value) (w:World):Prop where
 B:Below W0.heap.size W0 w
 e:l 0=true→l 2=false→Rw.Own yY w W0.heap.size (v 0) []
 c:l 2=true→l 5=false→Rw.Own yY w W0.heap.size (v 2) ps
 t:l 4=true→l 5=false→∃ H,v 4=.slice (some ⟨H,0,none⟩) 1 1∧H<w.heap.size∧W0.heap.size≤H∧Rw.From yY w (some ⟨H,0,none⟩) [p]∧(l 0=true→l 2=false→(v 0).ownBlock≠some H)
 a:l 5=true→Rw.Own yY w W0.heap.size (v 5) (ps ++ [p])
 m:l 6=true→Rw.Own yY w W0.heap.size (v 6) (ps ++ [p])
namespace Cc
variable {W0:World} {ps:List Pt} {p:Pt} {l l':Nat→Bool} {v v':Nat→Value} {w w':World}
theorem start:Cc W0 ps p (fun _=>false) v { W0 with drawn:=W0.drawn+1 } where
 B:=(yM _ _).drew
 e:=fun h=>by cases h
 c:=fun h=>by cases h
 t:=fun h=>by cases h
 a:=fun h=>by cases h
 m:=fun h=>by cases h
theorem congr (h:∀ i ∈ [0,2,4,5,6],l i=l' i∧v i=v' i) (j:Cc W0 ps p l v w):Cc W0 ps p l' v' w:=by
 have h1:=h 0 (by simp);have h2:=h 2 (by simp);have h3:=h 4 (by simp);have h4:=h 5 (by simp);have h5:=h 6 (by simp);obtain ⟨jB,je,jc,jt,ja,jm⟩:=j;rw [h1.1,h1.2,h2.1] at je;rw [h2.1,h2.2,h4.1] at jc;rw [h3.1,h3.2,h4.1,h1.1,h1.2,h2.1] at jt;rw [h4.1,h4.2] at ja;rw [h5.1,h5.2] at jm;exact ⟨jB,je,jc,jt,ja,jm⟩
theorem keep (j:Cc W0 ps p l v w) (hb:Below w.heap.size w w'):Cc W0 ps p l v w' where
 B:=j.B.trans (hb.mono j.B.size)
 e:=fun h1 h2=>(j.e h1 h2).below hb
 c:=fun h1 h2=>(j.c h1 h2).below hb
 t:=fun h1 h2=>by
  obtain ⟨H,e,hH,h0,hf,hn⟩:=j.t h1 h2;exact ⟨H,e,Nat.lt_of_lt_of_le hH hb.size,h0,hf.keep hH hb,hn⟩
 a:=fun h1=>(j.a h1).below hb
 m:=fun h1=>(j.m h1).below hb
theorem empty (j:Cc W0 ps p l v w) (h2:l 2=false):Cc W0 ps p (Rg.upd l 0) (Rg.br v 0 (.slice (some ⟨w.heap.size,0,none⟩) 0 0)) (w.alloc (.cells #[] 57)) where
 B:=(j.keep (bA w _)).B
 e:=fun _ _=>Rw.Own.nv yY w _ j.B.size
 c:=fun h=>by
  have h:l 2=true:=h;rw [h2] at h;cases h
 t:=fun h1 h2=>by
  obtain ⟨H,e,hH,h0,hf,-⟩:=j.t h1 h2
  exact ⟨H,e,Nat.lt_of_lt_of_le hH (bA w _).size,h0,hf.keep hH (bA w _),fun _ _ q=>by
   have q:some w.heap.size=some H:=q
   injection q with q
   omega⟩
 a:=(j.keep (bA w _)).a
 m:=(j.keep (bA w _)).m
theorem lit (j:Cc W0 ps p l v w):Cc W0 ps p (Rg.upd l 4) (Rg.br v 4 (.slice (some ⟨w.heap.size,0,none⟩) 1 1)) (w.alloc (.cells #[.int .i64 p.1,.int .i64 p.2.1,.int .i64 p.2.2] 57)) where
 B:=(j.keep (bA w _)).B
 e:=(j.keep (bA w _)).e
 c:=(j.keep (bA w _)).c
 t:=fun _ _=>⟨w.heap.size,rfl,by simp,j.B.size,Rw.From.lit yY w p _ rfl,fun h1 h2 q=>by
  have:=((j.e h1 h2).lt _ q).2
  omega⟩
 a:=(j.keep (bA w _)).a
 m:=(j.keep (bA w _)).m
theorem app {u:Value} (j:Cc W0 ps p l v w) (h2:l 2=true) (h5:l 5=false) (h6:l 6=false) (hg:w.grownBy w' (v 2).ownBlock) (hu:Rw.Own yY w' W0.heap.size u (ps ++ [p])):Cc W0 ps p (Rg.upd l 5) (Rg.br v 5 u) w' where
 B:=j.B.grown hg j.B.size (fun k hk=>((j.c h2 h5).lt k hk).1)
 e:=fun h1 h3=>by
  have h3:l 2=false:=h3;rw [h2] at h3;cases h3
 c:=fun _ h=>by cases h
 t:=fun _ h=>by cases h
 a:=fun _=>hu
 m:=fun h=>by
  have h:l 6=true:=h;rw [h6] at h;cases h
theorem take (j:Cc W0 ps p l v w) (h5:l 5=true):Cc W0 ps p (Rg.upd l 6) (Rg.br v 6 (v 5)) w where
 B:=j.B
 e:=j.e
 c:=j.c
 t:=j.t
 a:=j.a
 m:=fun _=>j.a h5
end Cc
namespace M
noncomputable def dE (a b:Int) (l:List Pt) (n d:Int):Bool:=cJ a b l && (d8 n d && decide (0<n))
theorem sw {a b:Int} {l:List Pt} {n d:Int} (h:cJ a b l=false):dE a b l n d=false:=by unfold dE;rw [h];rfl
theorem sy {a b:Int} {l:List Pt} {n d:Int} (h:d8 n d=false):dE a b l n d=false:=by unfold dE;rw [h,Bool.false_and,Bool.and_false]
theorem s8 {a b:Int} {l:List Pt} {n d:Int} (h1:cJ a b l=true) (h2:d8 n d=true):dE a b l n d=decide (n > 0):=by unfold dE;rw [h1,h2];rfl
theorem qA {a b:Int} {l:List Pt} {n d:Int} (h:dE a b l n d=true):cJ a b l=true∧d8 n d=true∧0<n:=by
 unfold dE at h;simp only [Bool.and_eq_true,decide_eq_true_eq] at h;exact ⟨h.1,h.2.1,h.2.2⟩
noncomputable def fz (a b:Int) (l:List Pt):Bool:=(cy a b l).isSome && decide (0<yx (cy a b l))
noncomputable def ck (a b:Int) (l:List Pt):Bool:=cJ a b l && fz a b l
noncomputable def Bk (a b:Int) (l:List Pt):Int:=zI (cy a b l)
noncomputable def Bj (a b:Int) (l:List Pt):Int:=zJ (cy a b l)
end M
theorem Av {w:World} {v:Value} {l:List Pt} (h:dN w v l):∃ sa cap,v=.slice sa l.length cap:=by
 obtain ⟨a,cap,e,-⟩:=h;exact ⟨a,cap,e⟩
theorem jD (a b n d:Int) (v:Value) (l:List Pt) (g:Nat) (w:World) (C:aH w g 47 #[.int .i64 a,.int .i64 b,v,.int .i64 n,.int .i64 d]) (hx:dN w v l) (hn:l.length≤4000000) :
  Calls Tryz.prog 41 #[.pointer (some ⟨g,0,none⟩)] w fun e w'=>e=.returned (.bool (M.dE a b l n d))∧Below w.heap.size w w':=by
 obtain ⟨sa,cap,rfl⟩:=Av hx
 have PL:=fun W h=>iy a b (.slice sa l.length cap) l W h hn
 have PF:=fun W=>iB n d W
 replace hx:=yJ hx
 have h1:=fun h=>M.sw (a:=a) (b:=b) (l:=l) (n:=n) (d:=d) h
 have h2:=fun h=>M.sy (a:=a) (b:=b) (l:=l) (n:=n) (d:=d) h
 have h3:=fun h=>M.s8 (a:=a) (b:=b) (l:=l) (n:=n) (d:=d) h
 generalize M.dE a b l n d=ok at *;have ⟨c0,c1,c2,c3,c4⟩:=C.bD;generalize l.length=L,d8 n d=f,M.cJ a b l=p at *
 cases p with
 | false=>
  replace PL:=yJ PL;replace PF:=yJ PF;obtain rfl:ok=false:=h1 rfl;clear h1 h2 h3;go_enter Tryz.func41,Tryz.ntmps41
  go_upto_region 1 with fail
  refine Rg.bK 25 [.is (.pointer (some ⟨g,0,none⟩)),.is (.pointer (some ⟨g,0,none⟩)),.is (.pointer (some ⟨g,0,none⟩)),.is (.agg #[.int .i64 a,.int .i64 b]),.is (.pointer (some ⟨g,0,none⟩)),.is (.pointer (some ⟨g,0,none⟩)),.is (.pointer (some ⟨g,2,none⟩)),.is (.slice sa L cap),.is (.bool false),.is (.bool false),.is (undef),.is (undef),.is (undef),.is (undef),.is (undef),.is (.bool false),.is (.bool false),.is (undef),.is (undef),.is (undef),.is (undef),.is (undef),.is (undef),.is (.bool false),.is (.bool false)] (by kernel_rfl) (by kernel_rfl) (by kernel_rfl) ⟨?_,?_,?_,?_,?_,?_,?_,?_,?_,?_,?_,?_,?_,?_,?_,?_,?_,?_,?_,?_,?_,?_,?_,?_,?_,trivial⟩ ?_
  ·intro _ zZ w_ hB hr
   have e0:zZ.tmps[0]?=some (.pointer (some ⟨g,0,none⟩)):=hr 0 (by decide);exact Rg.aG rfl (by go_simp)
  ·intro _ zZ w_ hB hr
   have e3:=Rg.a_ (hr 3 (by decide));exact Rg.aG rfl (by go_simp)
  ·intro _ zZ w_ hB hr
   have e4:=Rg.a_ (hr 4 (by decide));exact Rg.aG rfl (by go_simp)
  ·intro _ zZ w_ hB hr
   have e5:=Rg.a_ (hr 5 (by decide));have k0:=aE hB c0;have k1:=aE hB c1;exact Rg.aG rfl (by go_simp)
  ·intro _ zZ w_ hB hr
   have e0:zZ.tmps[0]?=some (.pointer (some ⟨g,0,none⟩)):=hr 0 (by decide);exact Rg.aG rfl (by go_simp)
  ·intro _ zZ w_ hB hr
   have e7:=Rg.a_ (hr 7 (by decide));exact Rg.aG rfl (by go_simp)
  ·intro _ zZ w_ hB hr
   have e8:=Rg.a_ (hr 8 (by decide));exact Rg.aG rfl (by go_simp)
  ·intro _ zZ w_ hB hr
   have e9:=Rg.a_ (hr 9 (by decide));have k2:=aE hB c2;exact Rg.aG rfl (by go_simp)
  ·intro _ zZ w_ hB hr
   have e6:=Rg.a_ (hr 6 (by decide));have e10:=Rg.a_ (hr 10 (by decide));have ef:=Rg.ef zZ;exact Rg.bU rfl (by go_simp) (PL.out _ (hx.out.below hB))
  ·intro _ zZ w_ hB hr
   have e11:=Rg.a_ (hr 11 (by decide));exact Rg.aG rfl (by go_simp)
  ·intro _ zZ w_ hB hr
   have e0:zZ.tmps[0]?=some (.pointer (some ⟨g,0,none⟩)):=hr 0 (by decide);have e12:=Rg.a_ (hr 12 (by decide));exact Rg.bI (Rg.ae (j:=9) (b:=false) rfl (Rg.yZ rfl e12))
  ·intro _ zZ w_ hB hr
   have e12:=Rg.a_ (hr 12 (by decide));have e13:=Rg.a_ (hr 13 (by decide));exact Rg.bI (Rg.ae (j:=9) (b:=false) rfl (Rg.yZ rfl e12))
  ·intro _ zZ w_ hB hr
   have e12:=Rg.a_ (hr 12 (by decide));have e14:=Rg.a_ (hr 14 (by decide));exact Rg.bI (Rg.ae (j:=9) (b:=false) rfl (Rg.yZ rfl e12))
  ·intro _ zZ w_ hB hr
   have e12:=Rg.a_ (hr 12 (by decide));have e15:=Rg.a_ (hr 15 (by decide));exact Rg.bI (Rg.ae (j:=9) (b:=false) rfl (Rg.yZ rfl e12))
  ·intro _ zZ w_ hB hr
   have e12:=Rg.a_ (hr 12 (by decide));have e16:=Rg.a_ (hr 16 (by decide));exact Rg.bI (Rg.ae (j:=9) (b:=false) rfl (Rg.yZ rfl e12))
  ·intro _ zZ w_ hB hr
   have e12:=Rg.a_ (hr 12 (by decide));have e17:=Rg.a_ (hr 17 (by decide));have ec:=Rg.ec zZ;exact Rg.aG rfl (by go_simp)
  ·intro _ zZ w_ hB hr
   have e18:=Rg.a_ (hr 18 (by decide));exact Rg.aG rfl (by go_simp)
  ·intro _ zZ w_ hB hr
   have e0:zZ.tmps[0]?=some (.pointer (some ⟨g,0,none⟩)):=hr 0 (by decide);have e19:=Rg.a_ (hr 19 (by decide));exact Rg.bI (Rg.ae (j:=16) (b:=false) rfl (Rg.yZ rfl e19))
  ·intro _ zZ w_ hB hr
   have e19:=Rg.a_ (hr 19 (by decide));have e20:=Rg.a_ (hr 20 (by decide));exact Rg.bI (Rg.ae (j:=16) (b:=false) rfl (Rg.yZ rfl e19))
  ·intro _ zZ w_ hB hr
   have e19:=Rg.a_ (hr 19 (by decide));have e21:=Rg.a_ (hr 21 (by decide));exact Rg.bI (Rg.ae (j:=16) (b:=false) rfl (Rg.yZ rfl e19))
  ·intro _ zZ w_ hB hr
   have e19:=Rg.a_ (hr 19 (by decide));have e22:=Rg.a_ (hr 22 (by decide));exact Rg.bI (Rg.ae (j:=16) (b:=false) rfl (Rg.yZ rfl e19))
  ·intro _ zZ w_ hB hr
   have e19:=Rg.a_ (hr 19 (by decide));have e23:=Rg.a_ (hr 23 (by decide));exact Rg.bI (Rg.ae (j:=16) (b:=false) rfl (Rg.yZ rfl e19))
  ·intro _ zZ w_ hB hr
   have e19:=Rg.a_ (hr 19 (by decide));have e24:=Rg.a_ (hr 24 (by decide));have ec:=Rg.ec zZ;exact Rg.bI (Rg.ae (j:=16) (b:=false) rfl (Rg.yZ rfl e19))
  ·intro _ zZ w_ hB hr
   have e19:=Rg.a_ (hr 19 (by decide));have e25:=Rg.a_ (hr 25 (by decide));have ec:=Rg.ec zZ;exact Rg.aG rfl (by go_simp)
  ·intro _ zZ w_ hB hr
   have e26:=Rg.a_ (hr 26 (by decide));exact Rg.aG rfl (by go_simp)
  intro vals wz hB hv hne;have zP:vals 24=.bool false:=hv 24 (by decide);simp only [Rg.ak,Rg.fill,Act.put,Nat.reduceAdd];clear hv;simp only [zP];clear zP;unfold Rg.aW;go_wp2;go_ret;exact ⟨rfl,hB⟩
 | true=>
 cases f with
 | false=>
  replace PL:=yJ PL;replace PF:=yJ PF;obtain rfl:ok=false:=h2 rfl;clear h1 h2 h3;go_enter Tryz.func41,Tryz.ntmps41
  go_upto_region 1 with fail
  refine Rg.bK 25 [.is (.pointer (some ⟨g,0,none⟩)),.is (.pointer (some ⟨g,0,none⟩)),.is (.pointer (some ⟨g,0,none⟩)),.is (.agg #[.int .i64 a,.int .i64 b]),.is (.pointer (some ⟨g,0,none⟩)),.is (.pointer (some ⟨g,0,none⟩)),.is (.pointer (some ⟨g,2,none⟩)),.is (.slice sa L cap),.is (.bool true),.is (.bool true),.is (.pointer (some ⟨g,0,none⟩)),.is (.pointer (some ⟨g,0,none⟩)),.is (.pointer (some ⟨g,3,none⟩)),.is (.agg #[.int .i64 n,.int .i64 d]),.is (.bool false),.is (.bool false),.is (.bool false),.is (undef),.is (undef),.is (undef),.is (undef),.is (undef),.is (undef),.is (.bool false),.is (.bool false)] (by kernel_rfl) (by kernel_rfl) (by kernel_rfl) ⟨?_,?_,?_,?_,?_,?_,?_,?_,?_,?_,?_,?_,?_,?_,?_,?_,?_,?_,?_,?_,?_,?_,?_,?_,?_,trivial⟩ ?_
  ·intro _ zZ w_ hB hr
   have e0:zZ.tmps[0]?=some (.pointer (some ⟨g,0,none⟩)):=hr 0 (by decide);exact Rg.aG rfl (by go_simp)
  ·intro _ zZ w_ hB hr
   have e3:=Rg.a_ (hr 3 (by decide));exact Rg.aG rfl (by go_simp)
  ·intro _ zZ w_ hB hr
   have e4:=Rg.a_ (hr 4 (by decide));exact Rg.aG rfl (by go_simp)
  ·intro _ zZ w_ hB hr
   have e5:=Rg.a_ (hr 5 (by decide));have k0:=aE hB c0;have k1:=aE hB c1;exact Rg.aG rfl (by go_simp)
  ·intro _ zZ w_ hB hr
   have e0:zZ.tmps[0]?=some (.pointer (some ⟨g,0,none⟩)):=hr 0 (by decide);exact Rg.aG rfl (by go_simp)
  ·intro _ zZ w_ hB hr
   have e7:=Rg.a_ (hr 7 (by decide));exact Rg.aG rfl (by go_simp)
  ·intro _ zZ w_ hB hr
   have e8:=Rg.a_ (hr 8 (by decide));exact Rg.aG rfl (by go_simp)
  ·intro _ zZ w_ hB hr
   have e9:=Rg.a_ (hr 9 (by decide));have k2:=aE hB c2;exact Rg.aG rfl (by go_simp)
  ·intro _ zZ w_ hB hr
   have e6:=Rg.a_ (hr 6 (by decide));have e10:=Rg.a_ (hr 10 (by decide));have ef:=Rg.ef zZ;exact Rg.bU rfl (by go_simp) (PL.out _ (hx.out.below hB))
  ·intro _ zZ w_ hB hr
   have e11:=Rg.a_ (hr 11 (by decide));exact Rg.aG rfl (by go_simp)
  ·intro _ zZ w_ hB hr
   have e0:zZ.tmps[0]?=some (.pointer (some ⟨g,0,none⟩)):=hr 0 (by decide);have e12:=Rg.a_ (hr 12 (by decide));exact Rg.aG (Rg.aU (j:=9) (b:=true) rfl (Rg.yZ rfl e12)) (by go_simp)
  ·intro _ zZ w_ hB hr
   have e12:=Rg.a_ (hr 12 (by decide));have e13:=Rg.a_ (hr 13 (by decide));exact Rg.aG (Rg.aU (j:=9) (b:=true) rfl (Rg.yZ rfl e12)) (by go_simp)
  ·intro _ zZ w_ hB hr
   have e12:=Rg.a_ (hr 12 (by decide));have e14:=Rg.a_ (hr 14 (by decide));exact Rg.aG (Rg.aU (j:=9) (b:=true) rfl (Rg.yZ rfl e12)) (by go_simp)
  ·intro _ zZ w_ hB hr
   have e12:=Rg.a_ (hr 12 (by decide));have e15:=Rg.a_ (hr 15 (by decide));have k3:=aE hB c3;have k4:=aE hB c4;exact Rg.aG (Rg.aU (j:=9) (b:=true) rfl (Rg.yZ rfl e12)) (by go_simp)
  ·intro _ zZ w_ hB hr
   have e12:=Rg.a_ (hr 12 (by decide));have e16:=Rg.a_ (hr 16 (by decide));have ef:=Rg.ef zZ;exact Rg.bU (Rg.aU (j:=9) (b:=true) rfl (Rg.yZ rfl e12)) (by go_simp) (PF.out _)
  ·intro _ zZ w_ hB hr
   have e12:=Rg.a_ (hr 12 (by decide));have e17:=Rg.a_ (hr 17 (by decide));have ec:=Rg.ec zZ;exact Rg.aG rfl (by go_simp)
  ·intro _ zZ w_ hB hr
   have e18:=Rg.a_ (hr 18 (by decide));exact Rg.aG rfl (by go_simp)
  ·intro _ zZ w_ hB hr
   have e0:zZ.tmps[0]?=some (.pointer (some ⟨g,0,none⟩)):=hr 0 (by decide);have e19:=Rg.a_ (hr 19 (by decide));exact Rg.bI (Rg.ae (j:=16) (b:=false) rfl (Rg.yZ rfl e19))
  ·intro _ zZ w_ hB hr
   have e19:=Rg.a_ (hr 19 (by decide));have e20:=Rg.a_ (hr 20 (by decide));exact Rg.bI (Rg.ae (j:=16) (b:=false) rfl (Rg.yZ rfl e19))
  ·intro _ zZ w_ hB hr
   have e19:=Rg.a_ (hr 19 (by decide));have e21:=Rg.a_ (hr 21 (by decide));exact Rg.bI (Rg.ae (j:=16) (b:=false) rfl (Rg.yZ rfl e19))
  ·intro _ zZ w_ hB hr
   have e19:=Rg.a_ (hr 19 (by decide));have e22:=Rg.a_ (hr 22 (by decide));exact Rg.bI (Rg.ae (j:=16) (b:=false) rfl (Rg.yZ rfl e19))
  ·intro _ zZ w_ hB hr
   have e19:=Rg.a_ (hr 19 (by decide));have e23:=Rg.a_ (hr 23 (by decide));exact Rg.bI (Rg.ae (j:=16) (b:=false) rfl (Rg.yZ rfl e19))
  ·intro _ zZ w_ hB hr
   have e19:=Rg.a_ (hr 19 (by decide));have e24:=Rg.a_ (hr 24 (by decide));have ec:=Rg.ec zZ;exact Rg.bI (Rg.ae (j:=16) (b:=false) rfl (Rg.yZ rfl e19))
  ·intro _ zZ w_ hB hr
   have e19:=Rg.a_ (hr 19 (by decide));have e25:=Rg.a_ (hr 25 (by decide));have ec:=Rg.ec zZ;exact Rg.aG rfl (by go_simp)
  ·intro _ zZ w_ hB hr
   have e26:=Rg.a_ (hr 26 (by decide));exact Rg.aG rfl (by go_simp)
  intro vals wz hB hv hne;have zP:vals 24=.bool false:=hv 24 (by decide);simp only [Rg.ak,Rg.fill,Act.put,Nat.reduceAdd];clear hv;simp only [zP];clear zP;unfold Rg.aW;go_wp2;go_ret;exact ⟨rfl,hB⟩
 | true=>
 replace PL:=yJ PL;replace PF:=yJ PF
 by_cases hpos:n > 0
 ·have hd:decide (n > 0)=true:=decide_eq_true hpos
  obtain rfl:ok=true:=(h3 rfl rfl).trans hd;clear h1 h2 h3;go_enter Tryz.func41,Tryz.ntmps41
  go_upto_region 1 with fail
  refine Rg.bK 25 [.is (.pointer (some ⟨g,0,none⟩)),.is (.pointer (some ⟨g,0,none⟩)),.is (.pointer (some ⟨g,0,none⟩)),.is (.agg #[.int .i64 a,.int .i64 b]),.is (.pointer (some ⟨g,0,none⟩)),.is (.pointer (some ⟨g,0,none⟩)),.is (.pointer (some ⟨g,2,none⟩)),.is (.slice sa L cap),.is (.bool true),.is (.bool true),.is (.pointer (some ⟨g,0,none⟩)),.is (.pointer (some ⟨g,0,none⟩)),.is (.pointer (some ⟨g,3,none⟩)),.is (.agg #[.int .i64 n,.int .i64 d]),.is (.bool true),.is (.bool true),.is (.bool true),.is (.pointer (some ⟨g,0,none⟩)),.is (.pointer (some ⟨g,0,none⟩)),.is (.pointer (some ⟨g,3,none⟩)),.is (.pointer (some ⟨g,3,none⟩)),.is (.int .i64 n),.is (.bool true),.is (.bool true),.is (.bool true)] (by kernel_rfl) (by kernel_rfl) (by kernel_rfl) ⟨?_,?_,?_,?_,?_,?_,?_,?_,?_,?_,?_,?_,?_,?_,?_,?_,?_,?_,?_,?_,?_,?_,?_,?_,?_,trivial⟩ ?_
  ·intro _ zZ w_ hB hr
   have e0:zZ.tmps[0]?=some (.pointer (some ⟨g,0,none⟩)):=hr 0 (by decide);exact Rg.aG rfl (by go_simp)
  ·intro _ zZ w_ hB hr
   have e3:=Rg.a_ (hr 3 (by decide));exact Rg.aG rfl (by go_simp)
  ·intro _ zZ w_ hB hr
   have e4:=Rg.a_ (hr 4 (by decide));exact Rg.aG rfl (by go_simp)
  ·intro _ zZ w_ hB hr
   have e5:=Rg.a_ (hr 5 (by decide));have k0:=aE hB c0;have k1:=aE hB c1;exact Rg.aG rfl (by go_simp)
  ·intro _ zZ w_ hB hr
   have e0:zZ.tmps[0]?=some (.pointer (some ⟨g,0,none⟩)):=hr 0 (by decide);exact Rg.aG rfl (by go_simp)
  ·intro _ zZ w_ hB hr
   have e7:=Rg.a_ (hr 7 (by decide));exact Rg.aG rfl (by go_simp)
  ·intro _ zZ w_ hB hr
   have e8:=Rg.a_ (hr 8 (by decide));exact Rg.aG rfl (by go_simp)
  ·intro _ zZ w_ hB hr
   have e9:=Rg.a_ (hr 9 (by decide));have k2:=aE hB c2;exact Rg.aG rfl (by go_simp)
  ·intro _ zZ w_ hB hr
   have e6:=Rg.a_ (hr 6 (by decide));have e10:=Rg.a_ (hr 10 (by decide));have ef:=Rg.ef zZ;exact Rg.bU rfl (by go_simp) (PL.out _ (hx.out.below hB))
  ·intro _ zZ w_ hB hr
   have e11:=Rg.a_ (hr 11 (by decide));exact Rg.aG rfl (by go_simp)
  ·intro _ zZ w_ hB hr
   have e0:zZ.tmps[0]?=some (.pointer (some ⟨g,0,none⟩)):=hr 0 (by decide);have e12:=Rg.a_ (hr 12 (by decide));exact Rg.aG (Rg.aU (j:=9) (b:=true) rfl (Rg.yZ rfl e12)) (by go_simp)
  ·intro _ zZ w_ hB hr
   have e12:=Rg.a_ (hr 12 (by decide));have e13:=Rg.a_ (hr 13 (by decide));exact Rg.aG (Rg.aU (j:=9) (b:=true) rfl (Rg.yZ rfl e12)) (by go_simp)
  ·intro _ zZ w_ hB hr
   have e12:=Rg.a_ (hr 12 (by decide));have e14:=Rg.a_ (hr 14 (by decide));exact Rg.aG (Rg.aU (j:=9) (b:=true) rfl (Rg.yZ rfl e12)) (by go_simp)
  ·intro _ zZ w_ hB hr
   have e12:=Rg.a_ (hr 12 (by decide));have e15:=Rg.a_ (hr 15 (by decide));have k3:=aE hB c3;have k4:=aE hB c4;exact Rg.aG (Rg.aU (j:=9) (b:=true) rfl (Rg.yZ rfl e12)) (by go_simp)
  ·intro _ zZ w_ hB hr
   have e12:=Rg.a_ (hr 12 (by decide));have e16:=Rg.a_ (hr 16 (by decide));have ef:=Rg.ef zZ;exact Rg.bU (Rg.aU (j:=9) (b:=true) rfl (Rg.yZ rfl e12)) (by go_simp) (PF.out _)
  ·intro _ zZ w_ hB hr
   have e12:=Rg.a_ (hr 12 (by decide));have e17:=Rg.a_ (hr 17 (by decide));have ec:=Rg.ec zZ;exact Rg.aG rfl (by go_simp)
  ·intro _ zZ w_ hB hr
   have e18:=Rg.a_ (hr 18 (by decide));exact Rg.aG rfl (by go_simp)
  ·intro _ zZ w_ hB hr
   have e0:zZ.tmps[0]?=some (.pointer (some ⟨g,0,none⟩)):=hr 0 (by decide);have e19:=Rg.a_ (hr 19 (by decide));exact Rg.aG (Rg.aU (j:=16) (b:=true) rfl (Rg.yZ rfl e19)) (by go_simp)
  ·intro _ zZ w_ hB hr
   have e19:=Rg.a_ (hr 19 (by decide));have e20:=Rg.a_ (hr 20 (by decide));exact Rg.aG (Rg.aU (j:=16) (b:=true) rfl (Rg.yZ rfl e19)) (by go_simp)
  ·intro _ zZ w_ hB hr
   have e19:=Rg.a_ (hr 19 (by decide));have e21:=Rg.a_ (hr 21 (by decide));exact Rg.aG (Rg.aU (j:=16) (b:=true) rfl (Rg.yZ rfl e19)) (by go_simp)
  ·intro _ zZ w_ hB hr
   have e19:=Rg.a_ (hr 19 (by decide));have e22:=Rg.a_ (hr 22 (by decide));exact Rg.aG (Rg.aU (j:=16) (b:=true) rfl (Rg.yZ rfl e19)) (by go_simp)
  ·intro _ zZ w_ hB hr
   have e19:=Rg.a_ (hr 19 (by decide));have e23:=Rg.a_ (hr 23 (by decide));have k3:=aE hB c3;exact Rg.aG (Rg.aU (j:=16) (b:=true) rfl (Rg.yZ rfl e19)) (by go_simp)
  ·intro _ zZ w_ hB hr
   have e19:=Rg.a_ (hr 19 (by decide));have e24:=Rg.a_ (hr 24 (by decide));have ec:=Rg.ec zZ;exact Rg.aG (Rg.aU (j:=16) (b:=true) rfl (Rg.yZ rfl e19)) (by go_simp;first | done | exact hd)
  ·intro _ zZ w_ hB hr
   have e19:=Rg.a_ (hr 19 (by decide));have e25:=Rg.a_ (hr 25 (by decide));have ec:=Rg.ec zZ;exact Rg.aG rfl (by go_simp)
  ·intro _ zZ w_ hB hr
   have e26:=Rg.a_ (hr 26 (by decide));exact Rg.aG rfl (by go_simp)
  intro vals wz hB hv hne;have zP:vals 24=.bool true:=hv 24 (by decide);simp only [Rg.ak,Rg.fill,Act.put,Nat.reduceAdd];clear hv;simp only [zP];clear zP;unfold Rg.aW;go_wp2;go_ret;exact ⟨rfl,hB⟩
 have hd:decide (n > 0)=false:=decide_eq_false hpos;obtain rfl:ok=false:=(h3 rfl rfl).trans hd;clear h1 h2 h3;go_enter Tryz.func41,Tryz.ntmps41
 go_upto_region 1 with fail
 refine Rg.bK 25 [.is (.pointer (some ⟨g,0,none⟩)),.is (.pointer (some ⟨g,0,none⟩)),.is (.pointer (some ⟨g,0,none⟩)),.is (.agg #[.int .i64 a,.int .i64 b]),.is (.pointer (some ⟨g,0,none⟩)),.is (.pointer (some ⟨g,0,none⟩)),.is (.pointer (some ⟨g,2,none⟩)),.is (.slice sa L cap),.is (.bool true),.is (.bool true),.is (.pointer (some ⟨g,0,none⟩)),.is (.pointer (some ⟨g,0,none⟩)),.is (.pointer (some ⟨g,3,none⟩)),.is (.agg #[.int .i64 n,.int .i64 d]),.is (.bool true),.is (.bool true),.is (.bool true),.is (.pointer (some ⟨g,0,none⟩)),.is (.pointer (some ⟨g,0,none⟩)),.is (.pointer (some ⟨g,3,none⟩)),.is (.pointer (some ⟨g,3,none⟩)),.is (.int .i64 n),.is (.bool false),.is (.bool false),.is (.bool false)] (by kernel_rfl) (by kernel_rfl) (by kernel_rfl) ⟨?_,?_,?_,?_,?_,?_,?_,?_,?_,?_,?_,?_,?_,?_,?_,?_,?_,?_,?_,?_,?_,?_,?_,?_,?_,trivial⟩ ?_
 ·intro _ zZ w_ hB hr
  have e0:zZ.tmps[0]?=some (.pointer (some ⟨g,0,none⟩)):=hr 0 (by decide);exact Rg.aG rfl (by go_simp)
 ·intro _ zZ w_ hB hr
  have e3:=Rg.a_ (hr 3 (by decide));exact Rg.aG rfl (by go_simp)
 ·intro _ zZ w_ hB hr
  have e4:=Rg.a_ (hr 4 (by decide));exact Rg.aG rfl (by go_simp)
 ·intro _ zZ w_ hB hr
  have e5:=Rg.a_ (hr 5 (by decide));have k0:=aE hB c0;have k1:=aE hB c1;exact Rg.aG rfl (by go_simp)
 ·intro _ zZ w_ hB hr
  have e0:zZ.tmps[0]?=some (.pointer (some ⟨g,0,none⟩)):=hr 0 (by decide);exact Rg.aG rfl (by go_simp)
 ·intro _ zZ w_ hB hr
  have e7:=Rg.a_ (hr 7 (by decide));exact Rg.aG rfl (by go_simp)
 ·intro _ zZ w_ hB hr
  have e8:=Rg.a_ (hr 8 (by decide));exact Rg.aG rfl (by go_simp)
 ·intro _ zZ w_ hB hr
  have e9:=Rg.a_ (hr 9 (by decide));have k2:=aE hB c2;exact Rg.aG rfl (by go_simp)
 ·intro _ zZ w_ hB hr
  have e6:=Rg.a_ (hr 6 (by decide));have e10:=Rg.a_ (hr 10 (by decide));have ef:=Rg.ef zZ;exact Rg.bU rfl (by go_simp) (PL.out _ (hx.out.below hB))
 ·intro _ zZ w_ hB hr
  have e11:=Rg.a_ (hr 11 (by decide));exact Rg.aG rfl (by go_simp)
 ·intro _ zZ w_ hB hr
  have e0:zZ.tmps[0]?=some (.pointer (some ⟨g,0,none⟩)):=hr 0 (by decide);have e12:=Rg.a_ (hr 12 (by decide));exact Rg.aG (Rg.aU (j:=9) (b:=true) rfl (Rg.yZ rfl e12)) (by go_simp)
 ·intro _ zZ w_ hB hr
  have e12:=Rg.a_ (hr 12 (by decide));have e13:=Rg.a_ (hr 13 (by decide));exact Rg.aG (Rg.aU (j:=9) (b:=true) rfl (Rg.yZ rfl e12)) (by go_simp)
 ·intro _ zZ w_ hB hr
  have e12:=Rg.a_ (hr 12 (by decide));have e14:=Rg.a_ (hr 14 (by decide));exact Rg.aG (Rg.aU (j:=9) (b:=true) rfl (Rg.yZ rfl e12)) (by go_simp)
 ·intro _ zZ w_ hB hr
  have e12:=Rg.a_ (hr 12 (by decide));have e15:=Rg.a_ (hr 15 (by decide));have k3:=aE hB c3;have k4:=aE hB c4;exact Rg.aG (Rg.aU (j:=9) (b:=true) rfl (Rg.yZ rfl e12)) (by go_simp)
 ·intro _ zZ w_ hB hr
  have e12:=Rg.a_ (hr 12 (by decide));have e16:=Rg.a_ (hr 16 (by decide));have ef:=Rg.ef zZ;exact Rg.bU (Rg.aU (j:=9) (b:=true) rfl (Rg.yZ rfl e12)) (by go_simp) (PF.out _)
 ·intro _ zZ w_ hB hr
  have e12:=Rg.a_ (hr 12 (by decide));have e17:=Rg.a_ (hr 17 (by decide));have ec:=Rg.ec zZ;exact Rg.aG rfl (by go_simp)
 ·intro _ zZ w_ hB hr
  have e18:=Rg.a_ (hr 18 (by decide));exact Rg.aG rfl (by go_simp)
 ·intro _ zZ w_ hB hr
  have e0:zZ.tmps[0]?=some (.pointer (some ⟨g,0,none⟩)):=hr 0 (by decide);have e19:=Rg.a_ (hr 19 (by decide));exact Rg.aG (Rg.aU (j:=16) (b:=true) rfl (Rg.yZ rfl e19)) (by go_simp)
 ·intro _ zZ w_ hB hr
  have e19:=Rg.a_ (hr 19 (by decide));have e20:=Rg.a_ (hr 20 (by decide));exact Rg.aG (Rg.aU (j:=16) (b:=true) rfl (Rg.yZ rfl e19)) (by go_simp)
 ·intro _ zZ w_ hB hr
  have e19:=Rg.a_ (hr 19 (by decide));have e21:=Rg.a_ (hr 21 (by decide));exact Rg.aG (Rg.aU (j:=16) (b:=true) rfl (Rg.yZ rfl e19)) (by go_simp)
 ·intro _ zZ w_ hB hr
  have e19:=Rg.a_ (hr 19 (by decide));have e22:=Rg.a_ (hr 22 (by decide));exact Rg.aG (Rg.aU (j:=16) (b:=true) rfl (Rg.yZ rfl e19)) (by go_simp)
 ·intro _ zZ w_ hB hr
  have e19:=Rg.a_ (hr 19 (by decide));have e23:=Rg.a_ (hr 23 (by decide));have k3:=aE hB c3;exact Rg.aG (Rg.aU (j:=16) (b:=true) rfl (Rg.yZ rfl e19)) (by go_simp)
 ·intro _ zZ w_ hB hr
  have e19:=Rg.a_ (hr 19 (by decide));have e24:=Rg.a_ (hr 24 (by decide));have ec:=Rg.ec zZ;exact Rg.aG (Rg.aU (j:=16) (b:=true) rfl (Rg.yZ rfl e19)) (by go_simp;first | done | exact hd)
 ·intro _ zZ w_ hB hr
  have e19:=Rg.a_ (hr 19 (by decide));have e25:=Rg.a_ (hr 25 (by decide));have ec:=Rg.ec zZ;exact Rg.aG rfl (by go_simp)
 ·intro _ zZ w_ hB hr
  have e26:=Rg.a_ (hr 26 (by decide));exact Rg.aG rfl (by go_simp)
 intro vals wz hB hv hne;have zP:vals 24=.bool false:=hv 24 (by decide);simp only [Rg.ak,Rg.fill,Act.put,Nat.reduceAdd];clear hv;simp only [zP];clear zP;unfold Rg.aW;go_wp2;go_ret;exact ⟨rfl,hB⟩
theorem kF (a b:Int) (v:Value) (l:List Pt) (w:World) (hx:dN w v l) (hn:l.length≤4000000) :
  Calls Tryz.prog 60 #[.agg #[.int .i64 a,.int .i64 b],v] w fun e w'=>e=.returned (.bool (M.cJ a b l))∧Below w.heap.size w w':=by
 obtain ⟨sa,cap,rfl⟩:=Av hx
 have PL:=yJ fun W h=>tS a b (.slice sa l.length cap) l W h hn
 obtain ⟨wc,hw3,C,B⟩:=gU w #[.int .i64 a,.int .i64 b] 29;have hxc:=yJ (hx.below B);have j_:=C.box.c0;have o_:=C.box.c1;generalize l.length=L,M.cJ a b l=p at *;clear hx;go_enter Tryz.func60,Tryz.ntmps60
 go_wp2_with (go_at_call 32;(refine (PL.out _ hxc.out).mono ?_);rintro e w4 ⟨rfl,hb4⟩;replace B:=i_ B hb4)
 go_ret;exact ⟨rfl,B⟩
theorem tV (a b n d:Int) (v:Value) (l:List Pt) (w:World) (hx:dN w v l) (hn:l.length≤4000000) :
  Calls Tryz.prog 38 #[.agg #[.int .i64 a,.int .i64 b,v,.int .i64 n,.int .i64 d]] w fun e w'=>e=.returned (.bool (M.dE a b l n d))∧Below w.heap.size w w':=by
 obtain ⟨sa,cap,rfl⟩:=Av hx
 have PL:=fun W h=>kF a b (.slice sa l.length cap) l W h hn
 have PF:=fun W=>kB n d W
 obtain ⟨wc,hw3,C,B⟩:=gU w #[.int .i64 a,.int .i64 b,.slice sa l.length cap,.int .i64 n,.int .i64 d] 47;have hxc:=yJ (hx.below B)
 have h1:=fun h=>M.sw (a:=a) (b:=b) (l:=l) (n:=n) (d:=d) h
 have h2:=fun h=>M.sy (a:=a) (b:=b) (l:=l) (n:=n) (d:=d) h
 have h3:=fun h=>M.s8 (a:=a) (b:=b) (l:=l) (n:=n) (d:=d) h
 generalize M.dE a b l n d=ok at *;have ⟨c0,c1,c2,c3,c4⟩:=C.bD;generalize l.length=L,d8 n d=f,M.cJ a b l=p at *;clear hx
 cases p with
 | false=>
  replace PL:=yJ PL;replace PF:=yJ PF;obtain rfl:ok=false:=h1 rfl;clear h1 h2 h3;go_enter Tryz.func38,Tryz.ntmps38
  go_wp2_with first | (go_at_call 60;(refine (PL.out _ hxc.out).mono ?_);rintro e w4 ⟨rfl,hb4⟩;replace B:=i_ B hb4;replace C:=C.keep hb4;(have ⟨c0,c1,c2,c3,c4⟩:=C.bD)) | (go_at_call 61;(refine (PF.out _).mono ?_);rintro e w5 ⟨rfl,hb5⟩;replace B:=i_ B hb5;replace C:=C.keep hb5;(have ⟨c0,c1,c2,c3,c4⟩:=C.bD))
  go_ret;exact ⟨rfl,B⟩
 | true=>
 cases f with
 | false=>
  replace PL:=yJ PL;replace PF:=yJ PF;obtain rfl:ok=false:=h2 rfl;clear h1 h2 h3;go_enter Tryz.func38,Tryz.ntmps38
  go_wp2_with first | (go_at_call 60;(refine (PL.out _ hxc.out).mono ?_);rintro e w4 ⟨rfl,hb4⟩;replace B:=i_ B hb4;replace C:=C.keep hb4;(have ⟨c0,c1,c2,c3,c4⟩:=C.bD)) | (go_at_call 61;(refine (PF.out _).mono ?_);rintro e w5 ⟨rfl,hb5⟩;replace B:=i_ B hb5;replace C:=C.keep hb5;(have ⟨c0,c1,c2,c3,c4⟩:=C.bD))
  go_ret;exact ⟨rfl,B⟩
 | true=>
 replace PL:=yJ PL;replace PF:=yJ PF
 by_cases hpos:n > 0
 ·have hd:decide (n > 0)=true:=decide_eq_true hpos
  obtain rfl:ok=true:=(h3 rfl rfl).trans hd;clear h1 h2 h3;go_enter Tryz.func38,Tryz.ntmps38
  go_wp2_with first | (go_at_call 60;(refine (PL.out _ hxc.out).mono ?_);rintro e w4 ⟨rfl,hb4⟩;replace B:=i_ B hb4;replace C:=C.keep hb4;(have ⟨c0,c1,c2,c3,c4⟩:=C.bD)) | (go_at_call 61;(refine (PF.out _).mono ?_);rintro e w5 ⟨rfl,hb5⟩;replace B:=i_ B hb5;replace C:=C.keep hb5;(have ⟨c0,c1,c2,c3,c4⟩:=C.bD))
  go_ret;exact ⟨by first | rfl | simp [hd],B⟩
 have hd:decide (n > 0)=false:=decide_eq_false hpos;obtain rfl:ok=false:=(h3 rfl rfl).trans hd;clear h1 h2 h3;go_enter Tryz.func38,Tryz.ntmps38
 go_wp2_with first | (go_at_call 60;(refine (PL.out _ hxc.out).mono ?_);rintro e w4 ⟨rfl,hb4⟩;replace B:=i_ B hb4;replace C:=C.keep hb4;(have ⟨c0,c1,c2,c3,c4⟩:=C.bD)) | (go_at_call 61;(refine (PF.out _).mono ?_);rintro e w5 ⟨rfl,hb5⟩;replace B:=i_ B hb5;replace C:=C.keep hb5;(have ⟨c0,c1,c2,c3,c4⟩:=C.bD))
 go_ret;exact ⟨by first | rfl | simp [hd],B⟩
structure Ah (w:World) (gc gf gr base:Nat) (a b:Int) (T:TypeId) (fs zs:Array Value) (W:World):Prop where
 B:Below w.heap.size w W
 C:aH W gc 29 #[.int .i64 a,.int .i64 b]
 F:aH W gf T fs
 R:aH W gr 47 zs
 hc:gc≠gr
 hf:gf≠gr
 hr:w.heap.size≤gr
 hl:gr<base
 hb:base≤W.heap.size
theorem Ah.keep {w:World} {gc gf gr base:Nat} {a b:Int} {T:TypeId} {fs zs:Array Value} {W W':World} (h:Ah w gc gf gr base a b T fs zs W) (hb:Below W.heap.size W W'):Ah w gc gf gr base a b T fs zs W':=
 ⟨h.B.trans (hb.mono h.B.size),h.C.keep hb,h.F.keep hb,h.R.keep hb,h.hc,h.hf,h.hr,h.hl,Nat.le_trans h.hb hb.size⟩
theorem Ah.grown {w:World} {gc gf gr base:Nat} {a b:Int} {T:TypeId} {fs zs:Array Value} {W W':World} (h:Ah w gc gf gr base a b T fs zs W) {v:Value} {ps:List Pt} (ho:Rw.Own yY W base v ps) (hg:W.grownBy W' v.ownBlock) (hc:(29:TypeId)≠yY.t) (hf:T≠yY.t) (hR:(47:TypeId)≠yY.t):Ah w gc gf gr base a b T fs zs W':=
 ⟨h.B.grown hg h.B.size (fun k hk=>Nat.le_trans h.hr (Nat.le_of_lt (Nat.lt_of_lt_of_le h.hl (ho.lt k hk).1))),h.C.iU ho hg hc,h.F.iU ho hg hf,h.R.iU ho hg hR,h.hc,h.hf,h.hr,h.hl,Nat.le_trans h.hb hg.size⟩
theorem gS (w:World) (p:Addr) (x:Value):(w.setCell p x).heap.size=w.heap.size:=by simp [World.setCell]
theorem Ah.put {w:World} {gc gf gr base:Nat} {a b:Int} {T:TypeId} {fs:Array Value} {x1 x2 x3 x4 x5:Value} {W:World} (h:Ah w gc gf gr base a b T fs #[x1,x2,x3,x4,x5] W) (y1 y2 y3 y4 y5:Value):Ah w gc gf gr base a b T fs #[y1,y2,y3,y4,y5] (((((W.setCell ⟨gr,0,none⟩ y1).setCell ⟨gr,1,none⟩ y2).setCell ⟨gr,2,none⟩ y3).setCell ⟨gr,3,none⟩ y4).setCell ⟨gr,4,none⟩ y5):=
 ⟨yL (yL (yL (yL (yL h.B h.hr _) h.hr _) h.hr _) h.hr _) h.hr _,((((h.C.other h.hc _).other h.hc _).other h.hc _).other h.hc _).other h.hc _,((((h.F.other h.hf _).other h.hf _).other h.hf _).other h.hf _).other h.hf _,h.R.xM ..,h.hc,h.hf,h.hr,h.hl,by simp only [gS];exact h.hb⟩
theorem Rw.Own.uG {α:Type} {E:Rw.Enc α} {w:World} {base k:Nat} {v:Value} {xs:List α} (h:Rw.Own E w base v xs) (hk:k<base) (y1 y2 y3 y4 y5:Value):Rw.Own E (((((w.setCell ⟨k,0,none⟩ y1).setCell ⟨k,1,none⟩ y2).setCell ⟨k,2,none⟩ y3).setCell ⟨k,3,none⟩ y4).setCell ⟨k,4,none⟩ y5) base v xs:=
 ((((h.dh hk _).dh hk _).dh hk _).dh hk _).dh hk _
def eT (i j:Nat) (w:World) (gc gf gr base:Nat) (a b n d:Int) (T:TypeId) (fs:Array Value) (l:List Pt) (k:Nat) (v:Nat→Value) (W:World):Prop:=match k with
 | 0=>Ah w gc gf gr base a b T fs #[.int .i64 0,.int .i64 0,.slice none 0 0,.int .i64 0,.int .i64 0] W
 | 1=>Ah w gc gf gr base a b T fs #[.int .i64 0,.int .i64 0,.slice none 0 0,.int .i64 0,.int .i64 0] W∧Rw.Own yY W base (v i) l
 | 2=>(Ah w gc gf gr base a b T fs #[.int .i64 0,.int .i64 0,.slice none 0 0,.int .i64 0,.int .i64 0] W∧Rw.Own yY W base (v i) l)∧v j=.agg #[.int .i64 a,.int .i64 b,v i,.int .i64 n,.int .i64 d]
 | _=>(Ah w gc gf gr base a b T fs #[.int .i64 a,.int .i64 b,v i,.int .i64 n,.int .i64 d] W∧Rw.Own yY W base (v i) l)∧v j=.agg #[.int .i64 a,.int .i64 b,v i,.int .i64 n,.int .i64 d]
theorem eT.congr {i j:Nat} {w:World} {gc gf gr base:Nat} {a b n d:Int} {T:TypeId} {fs:Array Value} {l:List Pt} {k:Nat} {v v':Nat→Value} {W:World} (h1:v i=v' i) (h2:v j=v' j) (h:eT i j w gc gf gr base a b n d T fs l k v W):eT i j w gc gf gr base a b n d T fs l k v' W:=by
 unfold eT at *;rw [←h1,←h2];exact h
theorem eT.st {i j:Nat} {w:World} {gc gf gr base:Nat} {a b n d:Int} {T:TypeId} {fs:Array Value} {l:List Pt} {k:Nat} {v:Nat→Value} {W:World} (h:eT i j w gc gf gr base a b n d T fs l k v W):∃ zs,Ah w gc gf gr base a b T fs zs W:=by
 match k,h with
 | 0,h=>exact ⟨_,h⟩
 | 1,h=>exact ⟨_,h.1⟩
 | 2,h=>exact ⟨_,h.1.1⟩
 | _+3,h=>exact ⟨_,h.1.1⟩
theorem eT.store {i j:Nat} {w:World} {gc gf gr base:Nat} {a b n d:Int} {T:TypeId} {fs:Array Value} {l:List Pt} {v v':Nat→Value} {W:World} {u:Value} (h:eT i j w gc gf gr base a b n d T fs l 2 v W) (hu:u=v i) (h1:v i=v' i) (h2:v j=v' j):eT i j w gc gf gr base a b n d T fs l 3 v' (((((W.setCell ⟨gr,0,none⟩ (.int .i64 a)).setCell ⟨gr,1,none⟩ (.int .i64 b)).setCell ⟨gr,2,none⟩ u).setCell ⟨gr,3,none⟩ (.int .i64 n)).setCell ⟨gr,4,none⟩ (.int .i64 d)):=by
 subst hu;exact eT.congr h1 h2 (show eT i j w gc gf gr base a b n d T fs l 3 v _ from ⟨⟨h.1.1.put ..,h.1.2.uG h.1.1.hl ..⟩,h.2⟩)
theorem NV {a b:Int} {l:List Pt} {w:World} {base:Nat} (h:M.fz a b l=false) (n d:Int):(Value.tuple #[.agg #[.int .i64 0,.int .i64 0,.slice none 0 0,.int .i64 0,.int .i64 0],.bool false])=.tuple #[.agg #[.int .i64 (M.pick (M.fz a b l) a),.int .i64 (M.pick (M.fz a b l) b),.slice none 0 0,.int .i64 (M.pick (M.fz a b l) n),.int .i64 (M.pick (M.fz a b l) d)],.bool (M.fz a b l)]∧Rw.Own yY w base (.slice none 0 0) (if M.fz a b l=true then l else []):=by
 rw [h];exact ⟨rfl,Rw.Own.nil yY _ _⟩
theorem iD (a b:Int) (v:Value) (l:List Pt) (w:World) (hx:dN w v l) (hg:M.good a b=true) (h1:1≤l.length) (hn:l.length≤4) (hp:∀ p ∈ l,M.bV a b p.1 p.2.1 p.2.2=true) :
  Calls Tryz.prog 45 #[.agg #[.int .i64 a,.int .i64 b],v] w fun e w'=>∃ v',e=.returned (.tuple #[.agg #[.int .i64 (M.pick (M.fz a b l) a),.int .i64 (M.pick (M.fz a b l) b),v',.int .i64 (M.pick (M.fz a b l) (M.Bk a b l)),.int .i64 (M.pick (M.fz a b l) (M.Bj a b l))],.bool (M.fz a b l)])∧Rw.Own yY w' w.heap.size v' (if M.fz a b l=true then l else [])∧Below w.heap.size w w':=by
 obtain ⟨sa,cap,rfl⟩:=Av hx
 have RG:=fun W h=>oM a b (.slice sa l.length cap) l W h hg h1 hn hp
 have CL:=yJ (fun w (h:dN w (.slice sa l.length cap) l)=>jw l (.slice sa l.length cap) w h (by omega))
 have hno:=fun W base h=>NV (a:=a) (b:=b) (l:=l) (w:=W) (base:=base) h (M.Bk a b l) (M.Bj a b l)
 have hok:M.fz a b l=((M.cy a b l).isSome && decide (0<M.yx (M.cy a b l))):=rfl
 have hN:(M.cy a b l).isSome=true→M.Bk a b l=M.fN (M.AB (M.yx (M.cy a b l)) 4096)∧M.Bj a b l=M.fD (M.AB (M.yx (M.cy a b l)) 4096):=by
  unfold M.Bk M.Bj
  cases M.cy a b l with
  | none=>intro h;cases h
  | some q=>intro _;exact ⟨rfl,rfl⟩
 have hbd:(M.cy a b l).isSome=true→-409600000≤M.yx (M.cy a b l)∧M.yx (M.cy a b l)≤409600000:=by
  have h3:=M.qV (a:=a) (b:=b) (l:=l)
  cases hq:M.cy a b l with
  | none=>intro h;cases h
  | some q=>
  intro _;rw [hq] at h3;obtain ⟨h4,h5,h6⟩:=M.fS h3;exact ⟨h5,Int.le_trans h4 h6⟩
 generalize M.cy a b l=rs,M.fz a b l=ok,M.Bj a b l=d,M.Bk a b l=n at *;generalize M.y_ rs=hh,M.yx rs=lo,rs.isSome=fl at *;replace RG:=yJ RG;replace hno:=yJ hno;obtain ⟨wc,hw3,C,R,B⟩:=ki w #[.int .i64 a,.int .i64 b] 29 #[.int .i64 0,.int .i64 0,.slice none 0 0,.int .i64 0,.int .i64 0] 47;have hxc:=yJ (hx.below B);have Hx:=yJ hx;have j_:=C.box.c0;have o_:=C.box.c1
 have hzz:w.heap.size+2≤wc.heap.size:=by have:=R.lt;omega
 have hcap:=yJ hn;clear hg hp hx h1 hn
 cases fl with
 | false=>
  obtain rfl:ok=false:=hok
  have hfin:=fun W=>hno.out W w.heap.size rfl
  replace hfin:=yJ hfin;clear hN hbd hno CL;go_enter Tryz.func45,Tryz.ntmps45
  go_wp2_with (go_at_call 35;(refine (RG.out _ hxc.out).mono ?_);rintro e w4 ⟨rfl,hb4⟩;have Ba:=(yM w4.heap.size w4).alloc (yN _) (.cells #[.int .i64 lo,.int .i64 hh] 68);replace B:=(i_ B hb4).trans (Ba.mono (Nat.le_trans B.size hb4.size));replace R:=(R.keep hb4).keep Ba;(have ⟨r0,r1,r2,r3,r4⟩:=R.bD);(have ⟨r5,r6,r7,r8,r9,_⟩:=R.eU))
  exact bodyPost_ret (v:=.tuple #[.agg #[.int .i64 0,.int .i64 0,.slice none 0 0,.int .i64 0,.int .i64 0],.bool false]) (by simp [results,Tryz.results45,go_sem, *]) rfl (⟨.slice none 0 0,by rw [(hfin.out w).1],(hfin.out _).2,yL (yL (yL (yL (yL B (by simp) _) (by simp) _) (by simp) _) (by simp) _) (by simp) _⟩)
 | true=>
 by_cases hpos:0<lo
 ·have hd:decide (lo≤0)=false:=decide_eq_false (by omega)
  obtain rfl:ok=true:=hok.trans (decide_eq_true hpos);obtain ⟨rfl,rfl⟩:=hN rfl;obtain ⟨b1,b2⟩:=hbd rfl
  have MF:=fun W=>kQ lo 4096 W (by omega) (by omega) (by omega) (by omega) (by omega)
  generalize (M.AB lo 4096).isSome=fq,M.fD (M.AB lo 4096)=d,M.fN (M.AB lo 4096)=n at *;replace MF:=yJ MF;clear hok hN hbd hno;go_enter Tryz.func45,Tryz.ntmps45
  go_upto_region 5 with first
   | (go_at_call 35;(refine (RG.out _ hxc.out).mono ?_);rintro e w4 ⟨rfl,hb4⟩;have Ba:=(yM w4.heap.size w4).alloc (yN _) (.cells #[.int .i64 lo,.int .i64 hh] 68);have S:=aH.new w4 #[.int .i64 lo,.int .i64 hh] 68;have Au:=hb4.size;replace B:=(i_ B hb4).trans (Ba.mono (Nat.le_trans B.size hb4.size));replace R:=(R.keep hb4).keep Ba;replace C:=(C.keep hb4).keep Ba;have s0:=S.box.c0;have za:=Ba.size)
   | (go_at_call 63;(refine (MF.out _).mono ?_);rintro e w5 ⟨rfl,hb5⟩;have Bb:=(yM w5.heap.size w5).alloc (yN _) (.cells #[.int .i64 n,.int .i64 d] 45);have F:=aH.new w5 #[.int .i64 n,.int .i64 d] 45;have hz5:=hb5.size;replace B:=(i_ B hb5).trans (Bb.mono (Nat.le_trans B.size hb5.size));replace R:=(R.keep hb5).keep Bb;replace C:=(C.keep hb5).keep Bb;have J0:=yJ (Ah.mk B C F R (by omega) (by omega) (by omega) (show w.heap.size+1<w5.heap.size+1 by omega) (by rw [yK];omega)))
  refine Rg.ou (fun k v W=>eT 2 4 w w.heap.size w5.heap.size (w.heap.size+1) (w5.heap.size+1) a b n d 45 #[.int .i64 n,.int .i64 d] l k v W) [2,4,5] [.agg #[.int .i64 a,.int .i64 b],.slice sa l.length cap,undef,.agg #[.int .i64 n,.int .i64 d],undef,undef,.bool true] (by kernel_rfl) (by kernel_rfl) (by kernel_rfl) (by decide) (fun k v v2 W h hj=>eT.congr (h 2 (by decide)) (h 4 (by decide)) hj) (fun _=>J0.out.keep (yM _ _).drew) ⟨?_,?_,?_,?_,?_,?_,?_,trivial⟩ ?_
  ·unfold Rg.aj
   rw [if_neg (by decide)];intro zZ w_ n_ f_ zg hJ hr;refine ⟨rfl,?_⟩;have e2:zZ.tmps[2]?=some (.pointer (some ⟨w.heap.size,0,none⟩)):=hr 2 (by decide);obtain ⟨Fa,hs_⟩:=eT.st hJ;have k0:=hs_.C.box.c0;have k1:=hs_.C.box.c1
   (first | (go_simp;done) | (go_simp;exact Rg.wr (by omega) (by omega)) | (go_simp;omega) | (go_simp;rfl))
  ·unfold Rg.aj
   rw [if_neg (by decide)];intro zZ w_ n_ f_ zg hJ hr;refine ⟨rfl,?_⟩;have e1:zZ.tmps[1]?=some (.slice sa l.length cap):=hr 1 (by decide)
   go_simp
  ·unfold Rg.aj
   rw [if_pos (by decide)];intro zZ w_ f_ hJ hr;have e31:zZ.tmps[31]?=some (.slice sa l.length cap):=hr 31 (by decide)
   have ef:∀ f,zZ.eval (.func f)=.func (.func f) #[] #[]:=fun _=>rfl
   refine ⟨rfl,?_⟩;have BK:Ah w w.heap.size w5.heap.size (w.heap.size+1) (w5.heap.size+1) a b 45 #[.int .i64 n,.int .i64 d] #[.int .i64 0,.int .i64 0,.slice none 0 0,.int .i64 0,.int .i64 0] w_:=hJ;refine Rg.eh (by go_simp;exact ⟨rfl,rfl⟩) ?_;refine (CL.out _ (Hx.out.below BK.B)).mono ?_;rintro e w6_ ⟨u_,rfl,yt,zj⟩;exact ⟨u_,rfl,BK.keep zj,yt.down BK.hb⟩
  ·unfold Rg.aj
   rw [if_neg (by decide)];intro zZ w_ n_ f_ zg hJ hr;refine ⟨rfl,?_⟩;have e8:zZ.tmps[8]?=some (.pointer (some ⟨w5.heap.size,0,none⟩)):=hr 8 (by decide);obtain ⟨Fa,hs_⟩:=eT.st hJ;have k0:=hs_.F.box.c0;have k1:=hs_.F.box.c1
   (first | (go_simp;done) | (go_simp;exact Rg.wr (by omega) (by omega)) | (go_simp;omega) | (go_simp;rfl))
  ·unfold Rg.aj
   rw [if_pos (by decide)];intro zZ w_ f_ hJ hr;have e30:zZ.tmps[30]?=some (.agg #[.int .i64 a,.int .i64 b]):=hr 30 (by decide);have e32:zZ.tmps[32]?=some (f_ 2):=hr 32 (by decide);have e33:zZ.tmps[33]?=some (.agg #[.int .i64 n,.int .i64 d]):=hr 33 (by decide);refine ⟨rfl,?_⟩;obtain ⟨BK,yt⟩:Ah w w.heap.size w5.heap.size (w.heap.size+1) (w5.heap.size+1) a b 45 #[.int .i64 n,.int .i64 d] #[.int .i64 0,.int .i64 0,.slice none 0 0,.int .i64 0,.int .i64 0] w_∧Rw.Own yY w_ (w5.heap.size+1) (f_ 2) l:=hJ;obtain ⟨A_,c_,q_⟩:=Av yt.seen.pts;rw [q_] at e32;refine Rg.ep (x:=.agg #[.int .i64 a,.int .i64 b,.slice A_ l.length c_,.int .i64 n,.int .i64 d]) (w2:=w_) (by (first | (go_simp;done) | (go_simp;exact Rg.wr (by omega) (by omega)) | (go_simp;omega) | (go_simp;rfl))) ?_;exact ⟨⟨BK,yt⟩,by show Value.agg _=Value.agg #[.int .i64 a,.int .i64 b,(f_ 2),.int .i64 n,.int .i64 d];rw [q_]⟩
  ·unfold Rg.aj
   rw [if_pos (by decide)];intro zZ w_ f_ hJ hr;have e4:zZ.tmps[4]?=some (.pointer (some ⟨w.heap.size+1,0,none⟩)):=hr 4 (by decide);have e34:zZ.tmps[34]?=some (f_ 4):=hr 34 (by decide);refine ⟨rfl,?_⟩;have hJ:eT 2 4 w w.heap.size w5.heap.size (w.heap.size+1) (w5.heap.size+1) a b n d 45 #[.int .i64 n,.int .i64 d] l 2 f_ w_:=hJ;obtain ⟨⟨BK,yt⟩,Hw⟩:(Ah w w.heap.size w5.heap.size (w.heap.size+1) (w5.heap.size+1) a b 45 #[.int .i64 n,.int .i64 d] #[.int .i64 0,.int .i64 0,.slice none 0 0,.int .i64 0,.int .i64 0] w_∧Rw.Own yY w_ (w5.heap.size+1) (f_ 2) l)∧f_ 4=.agg #[.int .i64 a,.int .i64 b,f_ 2,.int .i64 n,.int .i64 d]:=hJ;obtain ⟨A_,c_,q_⟩:=Av yt.seen.pts;have Dn:=eT.store (v':=Rg.br f_ 5 undef) hJ q_.symm rfl rfl;rw [Hw,q_] at e34;have ⟨y0,y1,y2,y3,y4⟩:=BK.R.bD;have ⟨y5,y6,y7,y8,y9,_⟩:=BK.R.eU;clear BK yt hJ Hw q_;unfold Oper.wp
   go_simp
   all_goals first | exact ⟨undef,Dn⟩ | exact ⟨_,rfl,Dn⟩ | exact Dn
  ·unfold Rg.aj
   rw [if_neg (by decide)];intro zZ w_ n_ f_ zg hJ hr;refine ⟨rfl,?_⟩;have ec:=Rg.ec zZ
   go_simp
  intro vals wz hJ hv;have Cz:vals 6=.bool true:=hv 6 (by decide) (by decide);simp only [Rg.ak,Rg.fill,Act.put,Nat.reduceAdd];clear hv;simp only [Cz];clear Cz;obtain ⟨⟨hS,hO⟩,hE⟩:(Ah w w.heap.size w5.heap.size (w.heap.size+1) (w5.heap.size+1) a b 45 #[.int .i64 n,.int .i64 d] #[.int .i64 a,.int .i64 b,vals 2,.int .i64 n,.int .i64 d] wz∧Rw.Own yY wz (w5.heap.size+1) (vals 2) l)∧vals 4=.agg #[.int .i64 a,.int .i64 b,vals 2,.int .i64 n,.int .i64 d]:=hJ;obtain ⟨A2,c2,q2⟩:=Av hO.seen.pts;rw [q2] at hS hO;rw [hE,q2];have R2:=hS.R;have ⟨r0,r1,r2,r3,r4⟩:=R2.bD;have BB:=hS.B;have hO:=yJ (hO.down (base':=w.heap.size) (by omega));clear J0 hS hE;go_wp2;exact bodyPost_ret (v:=.tuple #[.agg #[.int .i64 a,.int .i64 b,.slice A2 l.length c2,.int .i64 n,.int .i64 d],.bool true]) (by simp [results,Tryz.results45,go_sem, *]) rfl (⟨_,rfl,hO.out,BB⟩)
 have hd:decide (lo≤0)=true:=decide_eq_true (by omega);obtain rfl:ok=false:=hok.trans (decide_eq_false hpos)
 have hfin:=fun W=>hno.out W w.heap.size rfl
 replace hfin:=yJ hfin;clear hok hN hbd hno CL;go_enter Tryz.func45,Tryz.ntmps45
 go_wp2_with (go_at_call 35;(refine (RG.out _ hxc.out).mono ?_);rintro e w4 ⟨rfl,hb4⟩;have Ba:=(yM w4.heap.size w4).alloc (yN _) (.cells #[.int .i64 lo,.int .i64 hh] 68);have S:=aH.new w4 #[.int .i64 lo,.int .i64 hh] 68;have s0:=S.box.c0;replace B:=(i_ B hb4).trans (Ba.mono (Nat.le_trans B.size hb4.size));replace R:=(R.keep hb4).keep Ba;(have ⟨r0,r1,r2,r3,r4⟩:=R.bD);(have ⟨r5,r6,r7,r8,r9,_⟩:=R.eU))
 exact bodyPost_ret (v:=.tuple #[.agg #[.int .i64 0,.int .i64 0,.slice none 0 0,.int .i64 0,.int .i64 0],.bool false]) (by simp [results,Tryz.results45,go_sem, *]) rfl (⟨.slice none 0 0,by rw [(hfin.out w).1],(hfin.out _).2,yL (yL (yL (yL (yL B (by simp) _) (by simp) _) (by simp) _) (by simp) _) (by simp) _⟩)
theorem my:(29:TypeId)≠yY.t:=by show (29:TypeId)≠57;decide
theorem jb:(64:TypeId)≠yY.t:=by show (64:TypeId)≠57;decide
theorem cg:(47:TypeId)≠yY.t:=by show (47:TypeId)≠57;decide
def gN (w:World) (gc gf gr base:Nat) (a b n d:Int) (T:TypeId) (fs:Array Value) (l:List Pt) (k:Nat) (v:Nat→Value) (W:World):Prop:=match k with
 | 0=>Ah w gc gf gr base a b T fs #[.int .i64 0,.int .i64 0,.slice none 0 0,.int .i64 0,.int .i64 0] W
 | 1=>Ah w gc gf gr base a b T fs #[.int .i64 0,.int .i64 0,.slice none 0 0,.int .i64 0,.int .i64 0] W∧Rw.Own yY W base (v 1) []
 | k+2=>eT 3 6 w gc gf gr base a b n d T fs l (k+1) v W
theorem gN.congr {w:World} {gc gf gr base:Nat} {a b n d:Int} {T:TypeId} {fs:Array Value} {l:List Pt} {k:Nat} {v v':Nat→Value} {W:World} (h0:v 1=v' 1) (h1:v 3=v' 3) (h2:v 6=v' 6) (h:gN w gc gf gr base a b n d T fs l k v W):gN w gc gf gr base a b n d T fs l k v' W:=by
 match k,h with
 | 0,h=>exact h
 | 1,h=>unfold gN at *;rw [←h0];exact h
 | k+2,h=>exact eT.congr (k:=k+1) h1 h2 h
theorem gN.st {w:World} {gc gf gr base:Nat} {a b n d:Int} {T:TypeId} {fs:Array Value} {l:List Pt} {k:Nat} {v:Nat→Value} {W:World} (h:gN w gc gf gr base a b n d T fs l k v W):∃ zs,Ah w gc gf gr base a b T fs zs W:=by
 match k,h with
 | 0,h=>exact ⟨_,h⟩
 | 1,h=>exact ⟨_,h.1⟩
 | k+2,h=>exact eT.st (k:=k+1) h
theorem M.tv {a b:Int} {l:List Pt} (h:M.cJ a b l=false):M.ck a b l=false:=by unfold M.ck;rw [h];rfl
theorem M.tw {a b:Int} {l:List Pt} (h:M.cJ a b l=true):M.ck a b l=M.fz a b l:=by unfold M.ck;rw [h];rfl
theorem NW {a b:Int} {l:List Pt} {w:World} {base:Nat} (h:M.ck a b l=false) (n d:Int):(Value.tuple #[.agg #[.int .i64 0,.int .i64 0,.slice none 0 0,.int .i64 0,.int .i64 0],.bool false])=.tuple #[.agg #[.int .i64 (M.pick (M.ck a b l) a),.int .i64 (M.pick (M.ck a b l) b),.slice none 0 0,.int .i64 (M.pick (M.ck a b l) n),.int .i64 (M.pick (M.ck a b l) d)],.bool (M.ck a b l)]∧Rw.Own yY w base (.slice none 0 0) (if M.ck a b l=true then l else []):=by
 rw [h];exact ⟨rfl,Rw.Own.nil yY _ _⟩
theorem tW (a b:Int) (v:Value) (l:List Pt) (w:World) (hx:dN w v l) (hn:l.length≤4000000) :
  Calls Tryz.prog 44 #[.agg #[.int .i64 a,.int .i64 b],v] w fun e w'=>∃ v',e=.returned (.tuple #[.agg #[.int .i64 (M.pick (M.ck a b l) a),.int .i64 (M.pick (M.ck a b l) b),v',.int .i64 (M.pick (M.ck a b l) (M.Bk a b l)),.int .i64 (M.pick (M.ck a b l) (M.Bj a b l))],.bool (M.ck a b l)])∧Rw.Own yY w' w.heap.size v' (if M.ck a b l=true then l else [])∧Below w.heap.size w w':=by
 obtain ⟨sa,cap,rfl⟩:=Av hx
 have PL:=fun W h=>kF a b (.slice sa l.length cap) l W h hn
 have hno:=fun W h=>NW (a:=a) (b:=b) (l:=l) (w:=W) (base:=w.heap.size) h (M.Bk a b l) (M.Bj a b l)
 obtain ⟨wc,hw3,C,R,B⟩:=ki w #[.int .i64 a,.int .i64 b] 29 #[.int .i64 0,.int .i64 0,.slice none 0 0,.int .i64 0,.int .i64 0] 47;have hxc:=yJ (hx.below B);have Hx:=yJ hx;have j_:=C.box.c0;have o_:=C.box.c1;have ⟨r0,r1,r2,r3,r4⟩:=R.bD;have ⟨r5,r6,r7,r8,r9,_⟩:=R.eU
 have hzz:w.heap.size+2≤wc.heap.size:=by have:=R.lt;omega
 have hcap:=yJ hn;clear hx hn
 cases hp:M.cJ a b l with
 | false=>
  have hfin:=yJ fun W=>hno W (M.tv hp)
  rw [hp] at PL;replace PL:=yJ PL;clear hno;generalize hq:M.ck a b l=ok at *;obtain rfl:ok=false:=hq.symm.trans (M.tv hp);clear hq hp;generalize M.Bj a b l=d,M.Bk a b l=n at *;go_enter Tryz.func44,Tryz.ntmps44
  go_wp2_with (go_at_call 60;(refine (PL.out _ hxc.out).mono ?_);rintro e w4 ⟨rfl,hb4⟩;replace B:=i_ B hb4;replace R:=R.keep hb4;(have ⟨r0,r1,r2,r3,r4⟩:=R.bD);(have ⟨r5,r6,r7,r8,r9,_⟩:=R.eU))
  exact bodyPost_ret (v:=.tuple #[.agg #[.int .i64 0,.int .i64 0,.slice none 0 0,.int .i64 0,.int .i64 0],.bool false]) (by simp [results,Tryz.results44,go_sem, *]) rfl (⟨.slice none 0 0,by rw [(hfin.out w).1],(hfin.out _).2,yL (yL (yL (yL (yL B (by simp) _) (by simp) _) (by simp) _) (by simp) _) (by simp) _⟩)
 | true=>
 rw [hp] at PL;have hmk:=M.tw hp;obtain ⟨hg,h1,hn,hpt⟩:=M.dq hp
 have RG:=fun W h=>kq a b (.slice sa l.length cap) l W h hg h1 hn hpt
 have hok:M.ck a b l=((M.cy a b l).isSome && decide (M.zI (M.cy a b l) > 0)):=by rw [hmk,M.u9 M.qV];rfl
 have hN:M.Bk a b l=M.zI (M.cy a b l):=rfl;have hD:M.Bj a b l=M.zJ (M.cy a b l):=rfl;rw [hN,hD] at hno ⊢;clear hmk hN hD hg h1 hn hpt hp;generalize M.cy a b l=rs,M.ck a b l=ok at *;generalize M.zL rs=n4,M.zK rs=n3,M.zJ rs=d,M.zI rs=n,rs.isSome=fl at *;replace RG:=yJ RG;replace PL:=yJ PL;replace hno:=yJ hno
 cases fl with
 | false=>
  obtain rfl:ok=false:=hok
  have hfin:=yJ fun W=>hno.out W rfl
  clear hno;go_enter Tryz.func44,Tryz.ntmps44
  go_wp2_with first | (go_at_call 60;(refine (PL.out _ hxc.out).mono ?_);rintro e w3 ⟨rfl,hb3⟩;have hz3:=hb3.size;replace B:=i_ B hb3;replace R:=R.keep hb3;replace C:=C.keep hb3;have hxd:=yJ (hxc.out.below hb3);clear j_ o_;have j_:=C.box.c0;have o_:=C.box.c1) | (go_at_call 33;(refine (RG.out _ hxd.out).mono ?_);rintro e w4 ⟨rfl,hb4⟩;have Ba:=(yM w4.heap.size w4).alloc (yN _) (.cells #[.int .i64 n,.int .i64 d,.int .i64 n3,.int .i64 n4] 64);have S:=aH.new w4 #[.int .i64 n,.int .i64 d,.int .i64 n3,.int .i64 n4] 64;have Au:=hb4.size;replace B:=(i_ B hb4).trans (Ba.mono (Nat.le_trans B.size hb4.size));replace R:=(R.keep hb4).keep Ba;replace C:=(C.keep hb4).keep Ba;(have ⟨s0,_,_,_,_,_,_,_,_⟩:=S.aM);(have ⟨r0,r1,r2,r3,r4⟩:=R.bD);(have ⟨r5,r6,r7,r8,r9,_⟩:=R.eU))
  exact bodyPost_ret (v:=.tuple #[.agg #[.int .i64 0,.int .i64 0,.slice none 0 0,.int .i64 0,.int .i64 0],.bool false]) (by simp [results,Tryz.results44,go_sem, *]) rfl (⟨.slice none 0 0,by rw [(hfin.out w).1],(hfin.out _).2,yL (yL (yL (yL (yL B (by simp) _) (by simp) _) (by simp) _) (by simp) _) (by simp) _⟩)
 | true=>
 by_cases hpos:n > 0
 ·have hd:decide (n≤0)=false:=decide_eq_false (by omega)
  obtain rfl:ok=true:=hok.trans (decide_eq_true hpos);clear hok hno;go_enter Tryz.func44,Tryz.ntmps44
  go_upto_region 6 with first | (go_at_call 60;(refine (PL.out _ hxc.out).mono ?_);rintro e w3 ⟨rfl,hb3⟩;have hz3:=hb3.size;replace B:=i_ B hb3;replace R:=R.keep hb3;replace C:=C.keep hb3;have hxd:=yJ (hxc.out.below hb3);clear j_ o_;have j_:=C.box.c0;have o_:=C.box.c1) | (go_at_call 33;(refine (RG.out _ hxd.out).mono ?_);rintro e w4 ⟨rfl,hb4⟩;have Ba:=(yM w4.heap.size w4).alloc (yN _) (.cells #[.int .i64 n,.int .i64 d,.int .i64 n3,.int .i64 n4] 64);have S:=aH.new w4 #[.int .i64 n,.int .i64 d,.int .i64 n3,.int .i64 n4] 64;have Au:=hb4.size;replace B:=(i_ B hb4).trans (Ba.mono (Nat.le_trans B.size hb4.size));replace R:=(R.keep hb4).keep Ba;replace C:=(C.keep hb4).keep Ba;(have ⟨s0,_,_,_,_,_,_,_,_⟩:=S.aM);(have ⟨r0,r1,r2,r3,r4⟩:=R.bD);(have ⟨r5,r6,r7,r8,r9,_⟩:=R.eU);have J0:=yJ (Ah.mk B C S R (by omega) (by omega) (by omega) (show w.heap.size+1<w4.heap.size+1 by omega) (by rw [yK];omega)))
  refine Rg.ou (fun k v W=>gN w w.heap.size w4.heap.size (w.heap.size+1) (w4.heap.size+1) a b n d 64 #[.int .i64 n,.int .i64 d,.int .i64 n3,.int .i64 n4] l k v W) [1,3,6,7] [.agg #[.int .i64 a,.int .i64 b],undef,.slice sa l.length cap,undef,.pointer (some ⟨w4.heap.size,0,none⟩),.agg #[.int .i64 n,.int .i64 d],undef,undef,.bool true] (by kernel_rfl) (by kernel_rfl) (by kernel_rfl) (by decide) (fun k v v2 W h hj=>gN.congr (h 1 (by decide)) (h 3 (by decide)) (h 6 (by decide)) hj) (fun _=>J0.out.keep (yM _ _).drew) ⟨?_,?_,?_,?_,?_,?_,?_,?_,?_,trivial⟩ ?_
  ·unfold Rg.aj
   rw [if_neg (by decide)];intro zZ w_ n_ f_ zg hJ hr;refine ⟨rfl,?_⟩;have e2:zZ.tmps[2]?=some (.pointer (some ⟨w.heap.size,0,none⟩)):=hr 2 (by decide);obtain ⟨Fa,hs_⟩:=gN.st hJ;have k0:=hs_.C.box.c0;have k1:=hs_.C.box.c1
   (first | (go_simp;done) | (go_simp;exact Rg.wr (by omega) (by omega)) | (go_simp;omega) | (go_simp;rfl))
  ·unfold Rg.aj
   rw [if_pos (by decide)];intro zZ w_ f_ hJ hr;refine ⟨rfl,?_⟩;have BK:Ah w w.heap.size w4.heap.size (w.heap.size+1) (w4.heap.size+1) a b 64 #[.int .i64 n,.int .i64 d,.int .i64 n3,.int .i64 n4] #[.int .i64 0,.int .i64 0,.slice none 0 0,.int .i64 0,.int .i64 0] w_:=hJ;refine Rg.kL (x:=.slice (some ⟨w_.heap.size,0,none⟩) 0 0) (ob:=.cells #[] 57) (by (first | (go_simp;done) | (go_simp;exact Rg.wr (by omega) (by omega)) | (go_simp;omega) | (go_simp;rfl))) ?_;exact ⟨BK.keep (bA _ _),Rw.Own.nv yY w_ _ BK.hb⟩
  ·unfold Rg.aj
   rw [if_neg (by decide)];intro zZ w_ n_ f_ zg hJ hr;refine ⟨rfl,?_⟩;have e1:zZ.tmps[1]?=some (.slice sa l.length cap):=hr 1 (by decide)
   go_simp
  ·unfold Rg.aj
   rw [if_pos (by decide)];intro zZ w_ f_ hJ hr;have e29:zZ.tmps[29]?=some (f_ 1):=hr 29 (by decide);have e30:zZ.tmps[30]?=some (.slice sa l.length cap):=hr 30 (by decide);refine ⟨rfl,?_⟩;obtain ⟨BK,yt⟩:Ah w w.heap.size w4.heap.size (w.heap.size+1) (w4.heap.size+1) a b 64 #[.int .i64 n,.int .i64 d,.int .i64 n3,.int .i64 n4] #[.int .i64 0,.int .i64 0,.slice none 0 0,.int .i64 0,.int .i64 0] w_∧Rw.Own yY w_ (w4.heap.size+1) (f_ 1) []:=hJ
   obtain ⟨A_,c_,q_,GB⟩:=(Hx.out.below BK.B).from'
   injection q_ with CT Cb Cx
   subst CT Cx;obtain ⟨v_,CW,CT,Cb,Cx,Nj⟩:=Rw.lV j8 (W:=w_) (base:=(w4.heap.size+1)) 31 l sa cap (GB _ (yM _ _)) yt (yM _ _) BK.hb (by have:=hcap.out;simp only [List.length_nil];omega);refine Rg.ep (x:=v_) (w2:=CW) (Rg.eW rfl (Rg.ev e29) (Rg.ev e30) CT) ?_;exact ⟨BK.grown yt Nj my jb cg,Cb⟩
  ·unfold Rg.aj
   rw [if_neg (by decide)];intro zZ w_ n_ f_ zg hJ hr;refine ⟨rfl,?_⟩;have e6:zZ.tmps[6]?=some (.pointer (some ⟨w4.heap.size,0,none⟩)):=hr 6 (by decide)
   (first | (go_simp;done) | (go_simp;exact Rg.wr (by omega) (by omega)) | (go_simp;omega) | (go_simp;rfl))
  ·unfold Rg.aj
   rw [if_neg (by decide)];intro zZ w_ n_ f_ zg hJ hr;refine ⟨rfl,?_⟩;have e32:zZ.tmps[32]?=some (.pointer (some ⟨w4.heap.size,0,none⟩)):=hr 32 (by decide);obtain ⟨Fa,hs_⟩:=gN.st hJ;have ⟨k0,k1,_,_,_,_,_,_,_⟩:=hs_.F.aM
   (first | (go_simp;done) | (go_simp;exact Rg.wr (by omega) (by omega)) | (go_simp;omega) | (go_simp;rfl))
  ·unfold Rg.aj
   rw [if_pos (by decide)];intro zZ w_ f_ hJ hr;have e28:zZ.tmps[28]?=some (.agg #[.int .i64 a,.int .i64 b]):=hr 28 (by decide);have e31:zZ.tmps[31]?=some (f_ 3):=hr 31 (by decide);have e33:zZ.tmps[33]?=some (.agg #[.int .i64 n,.int .i64 d]):=hr 33 (by decide);refine ⟨rfl,?_⟩;obtain ⟨BK,yt⟩:Ah w w.heap.size w4.heap.size (w.heap.size+1) (w4.heap.size+1) a b 64 #[.int .i64 n,.int .i64 d,.int .i64 n3,.int .i64 n4] #[.int .i64 0,.int .i64 0,.slice none 0 0,.int .i64 0,.int .i64 0] w_∧Rw.Own yY w_ (w4.heap.size+1) (f_ 3) l:=hJ;obtain ⟨A_,c_,q_⟩:=Av yt.seen.pts;rw [q_] at e31;refine Rg.ep (x:=.agg #[.int .i64 a,.int .i64 b,.slice A_ l.length c_,.int .i64 n,.int .i64 d]) (w2:=w_) (by (first | (go_simp;done) | (go_simp;exact Rg.wr (by omega) (by omega)) | (go_simp;omega) | (go_simp;rfl))) ?_;exact ⟨⟨BK,yt⟩,by show Value.agg _=Value.agg #[.int .i64 a,.int .i64 b,(f_ 3),.int .i64 n,.int .i64 d];rw [q_]⟩
  ·unfold Rg.aj
   rw [if_pos (by decide)];intro zZ w_ f_ hJ hr;have e4:zZ.tmps[4]?=some (.pointer (some ⟨w.heap.size+1,0,none⟩)):=hr 4 (by decide);have e34:zZ.tmps[34]?=some (f_ 6):=hr 34 (by decide);refine ⟨rfl,?_⟩;have hJ:eT 3 6 w w.heap.size w4.heap.size (w.heap.size+1) (w4.heap.size+1) a b n d 64 #[.int .i64 n,.int .i64 d,.int .i64 n3,.int .i64 n4] l 2 f_ w_:=hJ;obtain ⟨⟨BK,yt⟩,Hw⟩:(Ah w w.heap.size w4.heap.size (w.heap.size+1) (w4.heap.size+1) a b 64 #[.int .i64 n,.int .i64 d,.int .i64 n3,.int .i64 n4] #[.int .i64 0,.int .i64 0,.slice none 0 0,.int .i64 0,.int .i64 0] w_∧Rw.Own yY w_ (w4.heap.size+1) (f_ 3) l)∧f_ 6=.agg #[.int .i64 a,.int .i64 b,f_ 3,.int .i64 n,.int .i64 d]:=hJ;obtain ⟨A_,c_,q_⟩:=Av yt.seen.pts;have Dn:=eT.store (v':=Rg.br f_ 7 undef) hJ q_.symm rfl rfl;rw [Hw,q_] at e34;have ⟨y0,y1,y2,y3,y4⟩:=BK.R.bD;have ⟨y5,y6,y7,y8,y9,_⟩:=BK.R.eU;clear BK yt hJ Hw q_;unfold Oper.wp
   go_simp
   all_goals first | exact ⟨undef,Dn⟩ | exact ⟨_,rfl,Dn⟩ | exact Dn
  ·unfold Rg.aj
   rw [if_neg (by decide)];intro zZ w_ n_ f_ zg hJ hr;refine ⟨rfl,?_⟩;have ec:=Rg.ec zZ
   go_simp
  intro vals wz hJ hv;have CV:vals 8=.bool true:=hv 8 (by decide) (by decide);simp only [Rg.ak,Rg.fill,Act.put,Nat.reduceAdd];clear hv;simp only [CV];clear CV;obtain ⟨⟨hS,hO⟩,hE⟩:(Ah w w.heap.size w4.heap.size (w.heap.size+1) (w4.heap.size+1) a b 64 #[.int .i64 n,.int .i64 d,.int .i64 n3,.int .i64 n4] #[.int .i64 a,.int .i64 b,vals 3,.int .i64 n,.int .i64 d] wz∧Rw.Own yY wz (w4.heap.size+1) (vals 3) l)∧vals 6=.agg #[.int .i64 a,.int .i64 b,vals 3,.int .i64 n,.int .i64 d]:=hJ;obtain ⟨A2,c2,q2⟩:=Av hO.seen.pts;rw [q2] at hS hO;rw [hE,q2];have R2:=hS.R;have ⟨r0,r1,r2,r3,r4⟩:=R2.bD;have BB:=hS.B;have hO:=yJ (hO.down (base':=w.heap.size) (by omega));clear J0 hS hE;go_wp2;exact bodyPost_ret (v:=.tuple #[.agg #[.int .i64 a,.int .i64 b,.slice A2 l.length c2,.int .i64 n,.int .i64 d],.bool true]) (by simp [results,Tryz.results44,go_sem, *]) rfl (⟨_,rfl,hO.out,BB⟩)
 have hd:decide (n≤0)=true:=decide_eq_true (by omega);obtain rfl:ok=false:=hok.trans (decide_eq_false hpos)
 have hfin:=yJ fun W=>hno.out W rfl
 clear hok hno;go_enter Tryz.func44,Tryz.ntmps44
 go_wp2_with first | (go_at_call 60;(refine (PL.out _ hxc.out).mono ?_);rintro e w3 ⟨rfl,hb3⟩;have hz3:=hb3.size;replace B:=i_ B hb3;replace R:=R.keep hb3;replace C:=C.keep hb3;have hxd:=yJ (hxc.out.below hb3);clear j_ o_;have j_:=C.box.c0;have o_:=C.box.c1) | (go_at_call 33;(refine (RG.out _ hxd.out).mono ?_);rintro e w4 ⟨rfl,hb4⟩;have Ba:=(yM w4.heap.size w4).alloc (yN _) (.cells #[.int .i64 n,.int .i64 d,.int .i64 n3,.int .i64 n4] 64);have S:=aH.new w4 #[.int .i64 n,.int .i64 d,.int .i64 n3,.int .i64 n4] 64;have Au:=hb4.size;replace B:=(i_ B hb4).trans (Ba.mono (Nat.le_trans B.size hb4.size));replace R:=(R.keep hb4).keep Ba;replace C:=(C.keep hb4).keep Ba;(have ⟨s0,_,_,_,_,_,_,_,_⟩:=S.aM);(have ⟨r0,r1,r2,r3,r4⟩:=R.bD);(have ⟨r5,r6,r7,r8,r9,_⟩:=R.eU))
 exact bodyPost_ret (v:=.tuple #[.agg #[.int .i64 0,.int .i64 0,.slice none 0 0,.int .i64 0,.int .i64 0],.bool false]) (by simp [results,Tryz.results44,go_sem, *]) rfl (⟨.slice none 0 0,by rw [(hfin.out w).1],(hfin.out _).2,yL (yL (yL (yL (yL B (by simp) _) (by simp) _) (by simp) _) (by simp) _) (by simp) _⟩)
theorem Rg.nf {a b:Bool} (h:b=true→a=true) (ha:a=false):b=false:=by
 cases b
 ·rfl
 rw [h rfl] at ha;cases ha
theorem Rg.ff {a:Bool} {p:Prop} (h:a=false) (h':a=true):p:=by rw [h] at h';cases h'
theorem Rg.tf {a:Bool} {p:Prop} (h:a=true) (h':a=false):p:=by rw [h] at h';cases h'
namespace M
noncomputable def dr (g:Bool) (a b:Int) (l:List Pt):Bool:=g && ck a b l
theorem qk {g:Bool} {a b:Int} {l:List Pt} (h:g=false):dr g a b l=false:=by unfold dr;rw [h];rfl
theorem ug {g:Bool} {a b:Int} {l:List Pt} (h:g=true):dr g a b l=ck a b l:=by unfold dr;rw [h];rfl
theorem xR {g:Bool} {a b:Int} {l:List Pt}:(if dr g a b l=true then l else []).length≤4:=by
 split
 ·rename_i h
  unfold dr ck at h;rw [Bool.and_eq_true,Bool.and_eq_true] at h;exact (M.dq h.2.1).2.2.1
 simp
end M
structure DB (w:World) (gc gp gr base:Nat) (T1:TypeId) (cs:Array Value) (T2:TypeId) (ps zs:Array Value) (W:World):Prop where
 B:Below w.heap.size w W
 C:aH W gc T1 cs
 P:aH W gp T2 ps
 R:aH W gr 47 zs
 hc:gc≠gr
 hp:gp≠gr
 hr:w.heap.size≤gr
 lc:gc<base
 lp:gp<base
 lr:gr<base
 hb:base≤W.heap.size
namespace DB
variable {w:World} {gc gp gr base:Nat} {T1 T2:TypeId} {cs ps zs:Array Value} {W W':World}
theorem keep (h:DB w gc gp gr base T1 cs T2 ps zs W) (hb:Below W.heap.size W W'):DB w gc gp gr base T1 cs T2 ps zs W':=
 ⟨h.B.trans (hb.mono h.B.size),h.C.keep hb,h.P.keep hb,h.R.keep hb,h.hc,h.hp,h.hr,h.lc,h.lp,h.lr,Nat.le_trans h.hb hb.size⟩
theorem grown {v:Value} {l:List Pt} (h:DB w gc gp gr base T1 cs T2 ps zs W) (ho:Rw.Own yY W base v l) (hg:W.grownBy W' v.ownBlock):DB w gc gp gr base T1 cs T2 ps zs W':=by
 have far:∀ {g:Nat} {T:TypeId} {xs:Array Value},g<base→aH W g T xs→aH W' g T xs:=fun hl hv=>(hg.block _ hv.lt (fun e=>by
  have:=(ho.lt _ e.symm).1
  omega)).trans hv
 exact ⟨h.B.grown hg h.B.size (fun k hk=>Nat.le_trans h.hr (Nat.le_of_lt (Nat.lt_of_lt_of_le h.lr (ho.lt k hk).1))),far h.lc h.C,far h.lp h.P,far h.lr h.R,h.hc,h.hp,h.hr,h.lc,h.lp,h.lr,Nat.le_trans h.hb hg.size⟩
theorem put {x1 x2 x3 x4 x5:Value} (h:DB w gc gp gr base T1 cs T2 ps #[x1,x2,x3,x4,x5] W) (y1 y2 y3 y4 y5:Value):DB w gc gp gr base T1 cs T2 ps #[y1,y2,y3,y4,y5] (((((W.setCell ⟨gr,0,none⟩ y1).setCell ⟨gr,1,none⟩ y2).setCell ⟨gr,2,none⟩ y3).setCell ⟨gr,3,none⟩ y4).setCell ⟨gr,4,none⟩ y5):=
 ⟨yL (yL (yL (yL (yL h.B h.hr _) h.hr _) h.hr _) h.hr _) h.hr _,((((h.C.other h.hc _).other h.hc _).other h.hc _).other h.hc _).other h.hc _,((((h.P.other h.hp _).other h.hp _).other h.hp _).other h.hp _).other h.hp _,h.R.xM ..,h.hc,h.hp,h.hr,h.lc,h.lp,h.lr,by simp only [gS];exact h.hb⟩
end DB
structure Bl (W0:World) (ps:List Pt) (p:Pt) (l:Nat→Bool) (v:Nat→Value) (w:World):Prop where
 B:Below W0.heap.size W0 w
 c:l 2=true→l 5=false→Rw.Own yY w W0.heap.size (v 2) ps
 t:l 4=true→l 5=false→∃ H,v 4=.slice (some ⟨H,0,none⟩) 1 1∧H<w.heap.size∧Rw.From yY w (some ⟨H,0,none⟩) [p]
 a:l 5=true→Rw.Own yY w W0.heap.size (v 5) (ps ++ [p])
 m:l 6=true→Rw.Own yY w W0.heap.size (v 6) (ps ++ [p])
namespace Bl
variable {W0:World} {ps:List Pt} {p:Pt} {l l':Nat→Bool} {v v':Nat→Value} {w w':World}
theorem start:Bl W0 ps p (fun _=>false) v { W0 with drawn:=W0.drawn+1 } where
 B:=(yM _ _).drew
 c:=fun h=>by cases h
 t:=fun h=>by cases h
 a:=fun h=>by cases h
 m:=fun h=>by cases h
theorem congr (h:∀ i ∈ [2,4,5,6],l i=l' i∧v i=v' i) (j:Bl W0 ps p l v w):Bl W0 ps p l' v' w:=by
 have h2:=h 2 (by simp);have h3:=h 4 (by simp);have h4:=h 5 (by simp);have h5:=h 6 (by simp);obtain ⟨jB,jc,jt,ja,jm⟩:=j;rw [h2.1,h2.2,h4.1] at jc;rw [h3.1,h3.2,h4.1] at jt;rw [h4.1,h4.2] at ja;rw [h5.1,h5.2] at jm;exact ⟨jB,jc,jt,ja,jm⟩
theorem keep (j:Bl W0 ps p l v w) (hb:Below w.heap.size w w'):Bl W0 ps p l v w' where
 B:=j.B.trans (hb.mono j.B.size)
 c:=fun h1 h2=>(j.c h1 h2).below hb
 t:=fun h1 h2=>by
  obtain ⟨H,e,hH,hf⟩:=j.t h1 h2;exact ⟨H,e,Nat.lt_of_lt_of_le hH hb.size,hf.keep hH hb⟩
 a:=fun h1=>(j.a h1).below hb
 m:=fun h1=>(j.m h1).below hb
theorem clone {u:Value} (j:Bl W0 ps p l v w) (hb:Below w.heap.size w w') (hu:Rw.Own yY w' w.heap.size u ps):Bl W0 ps p (Rg.upd l 2) (Rg.br v 2 u) w' where
 B:=(j.keep hb).B
 c:=fun _ _=>hu.down j.B.size
 t:=(j.keep hb).t
 a:=(j.keep hb).a
 m:=(j.keep hb).m
theorem lit (j:Bl W0 ps p l v w):Bl W0 ps p (Rg.upd l 4) (Rg.br v 4 (.slice (some ⟨w.heap.size,0,none⟩) 1 1)) (w.alloc (.cells #[.int .i64 p.1,.int .i64 p.2.1,.int .i64 p.2.2] 57)) where
 B:=(j.keep (bA w _)).B
 c:=(j.keep (bA w _)).c
 t:=fun _ _=>⟨w.heap.size,rfl,by simp,Rw.From.lit yY w p _ rfl⟩
 a:=(j.keep (bA w _)).a
 m:=(j.keep (bA w _)).m
theorem app {u:Value} (j:Bl W0 ps p l v w) (h2:l 2=true) (h5:l 5=false) (h6:l 6=false) (hg:w.grownBy w' (v 2).ownBlock) (hu:Rw.Own yY w' W0.heap.size u (ps ++ [p])):Bl W0 ps p (Rg.upd l 5) (Rg.br v 5 u) w' where
 B:=j.B.grown hg j.B.size (fun k hk=>((j.c h2 h5).lt k hk).1)
 c:=fun _ h=>by cases h
 t:=fun _ h=>by cases h
 a:=fun _=>hu
 m:=fun h=>Rg.ff h6 h
theorem take (j:Bl W0 ps p l v w) (h5:l 5=true):Bl W0 ps p (Rg.upd l 6) (Rg.br v 6 (v 5)) w where
 B:=j.B
 c:=j.c
 t:=j.t
 a:=j.a
 m:=fun _=>j.a h5
end Bl
structure Aq (w0:World) (gc gp gr base:Nat) (T1:TypeId) (cs:Array Value) (T2:TypeId) (qs:Array Value) (ps:List Pt) (p:Pt) (x1 x2 x3 x4:Int) (ok:Bool) (L:List Pt) (l:Nat→Bool) (v:Nat→Value) (w:World):Prop where
 B:Below w0.heap.size w0 w
 S:∃ zs,DB w0 gc gp gr base T1 cs T2 qs zs w
 R:l 12=false→DB w0 gc gp gr base T1 cs T2 qs #[.int .i64 0,.int .i64 0,.slice none 0 0,.int .i64 0,.int .i64 0] w
 e:l 2=true→l 5=false→Rw.Own yY w base (v 2) []
 c:l 5=true→l 8=false→Rw.Own yY w base (v 5) ps
 t:l 7=true→l 8=false→∃ H,v 7=.slice (some ⟨H,0,none⟩) 1 1∧H<w.heap.size∧Rw.From yY w (some ⟨H,0,none⟩) [p]∧(l 2=true→l 5=false→(v 2).ownBlock≠some H)
 a:l 8=true→l 9=false→Rw.Own yY w base (v 8) (ps ++ [p])
 r:l 9=true→∃ u,v 9=.tuple #[.agg #[.int .i64 x1,.int .i64 x2,u,.int .i64 x3,.int .i64 x4],.bool ok]∧Rw.Own yY w base u L
 x:l 10=true→∃ u,v 10=.agg #[.int .i64 x1,.int .i64 x2,u,.int .i64 x3,.int .i64 x4]∧Rw.Own yY w base u L
 s:l 12=true→∃ u,DB w0 gc gp gr base T1 cs T2 qs #[.int .i64 x1,.int .i64 x2,u,.int .i64 x3,.int .i64 x4] w∧Rw.Own yY w base u L
namespace Aq
variable {w0:World} {gc gp gr base:Nat} {T1 T2:TypeId} {cs qs:Array Value} {ps:List Pt} {p:Pt} {x1 x2 x3 x4:Int} {ok:Bool} {L:List Pt} {l l':Nat→Bool} {v v':Nat→Value} {w w':World}
theorem start (h:DB w0 gc gp gr base T1 cs T2 qs #[.int .i64 0,.int .i64 0,.slice none 0 0,.int .i64 0,.int .i64 0] w):Aq w0 gc gp gr base T1 cs T2 qs ps p x1 x2 x3 x4 ok L (fun _=>false) v w where
 B:=h.B
 S:=⟨_,h⟩
 R:=fun _=>h
 e:=fun h=>by cases h
 c:=fun h=>by cases h
 t:=fun h=>by cases h
 a:=fun h=>by cases h
 r:=fun h=>by cases h
 x:=fun h=>by cases h
 s:=fun h=>by cases h
theorem congr (h:∀ i ∈ [2,5,7,8,9,10,12],l i=l' i∧v i=v' i) (j:Aq w0 gc gp gr base T1 cs T2 qs ps p x1 x2 x3 x4 ok L l v w):Aq w0 gc gp gr base T1 cs T2 qs ps p x1 x2 x3 x4 ok L l' v' w:=by
 have h2:=h 2 (by simp);have h5:=h 5 (by simp);have h7:=h 7 (by simp);have h8:=h 8 (by simp);have h9:=h 9 (by simp);have hx:=h 10 (by simp);have hs:=h 12 (by simp);obtain ⟨jB,jS,jR,je,jc,jt,ja,jr,jx,js⟩:=j;rw [hs.1] at jR js;rw [h2.1,h2.2,h5.1] at je;rw [h5.1,h5.2,h8.1] at jc;rw [h7.1,h7.2,h8.1,h2.1,h2.2,h5.1] at jt;rw [h8.1,h8.2,h9.1] at ja;rw [h9.1,h9.2] at jr;rw [hx.1,hx.2] at jx;exact ⟨jB,jS,jR,je,jc,jt,ja,jr,jx,js⟩
theorem keep (j:Aq w0 gc gp gr base T1 cs T2 qs ps p x1 x2 x3 x4 ok L l v w) (hb:Below w.heap.size w w'):Aq w0 gc gp gr base T1 cs T2 qs ps p x1 x2 x3 x4 ok L l v w' where
 B:=j.B.trans (hb.mono j.B.size)
 S:=by
  obtain ⟨zs,h⟩:=j.S;exact ⟨zs,h.keep hb⟩
 R:=fun h=>(j.R h).keep hb
 e:=fun h1 h2=>(j.e h1 h2).below hb
 c:=fun h1 h2=>(j.c h1 h2).below hb
 t:=fun h1 h2=>by
  obtain ⟨H,e,hH,hf,hn⟩:=j.t h1 h2;exact ⟨H,e,Nat.lt_of_lt_of_le hH hb.size,hf.keep hH hb,hn⟩
 a:=fun h1 h2=>(j.a h1 h2).below hb
 r:=fun h1=>by
  obtain ⟨u,e,ho⟩:=j.r h1;exact ⟨u,e,ho.below hb⟩
 x:=fun h1=>by
  obtain ⟨u,e,ho⟩:=j.x h1;exact ⟨u,e,ho.below hb⟩
 s:=fun h1=>by
  obtain ⟨u,e,ho⟩:=j.s h1;exact ⟨u,e.keep hb,ho.below hb⟩
theorem empty (j:Aq w0 gc gp gr base T1 cs T2 qs ps p x1 x2 x3 x4 ok L l v w) (h5:l 5=false):Aq w0 gc gp gr base T1 cs T2 qs ps p x1 x2 x3 x4 ok L (Rg.upd l 2) (Rg.br v 2 (.slice (some ⟨w.heap.size,0,none⟩) 0 0)) (w.alloc (.cells #[] 57)) where
 B:=(j.keep (bA w _)).B
 S:=(j.keep (bA w _)).S
 R:=(j.keep (bA w _)).R
 e:=fun _ _=>by
  obtain ⟨zs,h⟩:=j.S;exact Rw.Own.nv yY w _ h.hb
 c:=fun h=>Rg.ff h5 h
 t:=fun h1 h2=>by
  obtain ⟨H,e,hH,hf,-⟩:=j.t h1 h2
  exact ⟨H,e,Nat.lt_of_lt_of_le hH (bA w _).size,hf.keep hH (bA w _),fun _ _ q=>by
   have q:some w.heap.size=some H:=q
   injection q with q
   omega⟩
 a:=(j.keep (bA w _)).a
 r:=(j.keep (bA w _)).r
 x:=(j.keep (bA w _)).x
 s:=(j.keep (bA w _)).s
theorem fill {u:Value} (j:Aq w0 gc gp gr base T1 cs T2 qs ps p x1 x2 x3 x4 ok L l v w) (h2:l 2=true) (h5:l 5=false) (h8:l 8=false) (h9:l 9=false) (h10:l 10=false) (h12:l 12=false) (hg:w.grownBy w' (v 2).ownBlock) (hu:Rw.Own yY w' base u ps):Aq w0 gc gp gr base T1 cs T2 qs ps p x1 x2 x3 x4 ok L (Rg.upd l 5) (Rg.br v 5 u) w' where
 B:=((j.R h12).grown (j.e h2 h5) hg).B
 S:=⟨_,(j.R h12).grown (j.e h2 h5) hg⟩
 R:=fun _=>(j.R h12).grown (j.e h2 h5) hg
 e:=fun _ h=>by cases h
 c:=fun _ _=>hu
 t:=fun h1 h3=>by
  obtain ⟨H,e,hH,hf,hn⟩:=j.t h1 h3;refine ⟨H,e,Nat.lt_of_lt_of_le hH hg.size,?_,fun _ h=>by cases h⟩;intro i x hx;obtain ⟨ad,q1,q2⟩:=hf i x hx;obtain rfl:=Option.some.inj q1
  have hblk:((⟨H,0,none⟩:Addr).add i).block=H:=by unfold Addr.add;split <;> rfl
  exact ⟨_,rfl,hg.cell q2 (by rw [hblk];exact fun q=>hn h2 h5 q.symm)⟩
 a:=fun h=>Rg.ff h8 h
 r:=fun h=>Rg.ff h9 h
 x:=fun h=>Rg.ff h10 h
 s:=fun h=>Rg.ff h12 h
theorem lit (j:Aq w0 gc gp gr base T1 cs T2 qs ps p x1 x2 x3 x4 ok L l v w):Aq w0 gc gp gr base T1 cs T2 qs ps p x1 x2 x3 x4 ok L (Rg.upd l 7) (Rg.br v 7 (.slice (some ⟨w.heap.size,0,none⟩) 1 1)) (w.alloc (.cells #[.int .i64 p.1,.int .i64 p.2.1,.int .i64 p.2.2] 57)) where
 B:=(j.keep (bA w _)).B
 S:=(j.keep (bA w _)).S
 R:=(j.keep (bA w _)).R
 e:=(j.keep (bA w _)).e
 c:=(j.keep (bA w _)).c
 t:=fun _ _=>⟨w.heap.size,rfl,by simp,Rw.From.lit yY w p _ rfl,fun h1 h2 q=>by
  have:=((j.e h1 h2).lt _ q).2
  omega⟩
 a:=(j.keep (bA w _)).a
 r:=(j.keep (bA w _)).r
 x:=(j.keep (bA w _)).x
 s:=(j.keep (bA w _)).s
theorem app {u:Value} (j:Aq w0 gc gp gr base T1 cs T2 qs ps p x1 x2 x3 x4 ok L l v w) (h5:l 5=true) (h8:l 8=false) (h9:l 9=false) (h10:l 10=false) (h12:l 12=false) (hg:w.grownBy w' (v 5).ownBlock) (hu:Rw.Own yY w' base u (ps ++ [p])):Aq w0 gc gp gr base T1 cs T2 qs ps p x1 x2 x3 x4 ok L (Rg.upd l 8) (Rg.br v 8 u) w' where
 B:=((j.R h12).grown (j.c h5 h8) hg).B
 S:=⟨_,(j.R h12).grown (j.c h5 h8) hg⟩
 R:=fun _=>(j.R h12).grown (j.c h5 h8) hg
 e:=fun _ h=>Rg.tf h5 h
 c:=fun _ h=>by cases h
 t:=fun _ h=>by cases h
 a:=fun _ _=>hu
 r:=fun h=>Rg.ff h9 h
 x:=fun h=>Rg.ff h10 h
 s:=fun h=>Rg.ff h12 h
theorem res {u:Value} (j:Aq w0 gc gp gr base T1 cs T2 qs ps p x1 x2 x3 x4 ok L l v w) (hb:Below w.heap.size w w') (hu:Rw.Own yY w' w.heap.size u L):Aq w0 gc gp gr base T1 cs T2 qs ps p x1 x2 x3 x4 ok L (Rg.upd l 9) (Rg.br v 9 (.tuple #[.agg #[.int .i64 x1,.int .i64 x2,u,.int .i64 x3,.int .i64 x4],.bool ok])) w' where
 B:=(j.keep hb).B
 S:=(j.keep hb).S
 R:=(j.keep hb).R
 e:=(j.keep hb).e
 c:=(j.keep hb).c
 t:=(j.keep hb).t
 a:=fun _ h=>by cases h
 r:=fun _=>by
  obtain ⟨zs,h⟩:=j.S;exact ⟨u,rfl,hu.down h.hb⟩
 x:=(j.keep hb).x
 s:=(j.keep hb).s
theorem take {u:Value} (j:Aq w0 gc gp gr base T1 cs T2 qs ps p x1 x2 x3 x4 ok L l v w) (hu:Rw.Own yY w base u L):Aq w0 gc gp gr base T1 cs T2 qs ps p x1 x2 x3 x4 ok L (Rg.upd l 10) (Rg.br v 10 (.agg #[.int .i64 x1,.int .i64 x2,u,.int .i64 x3,.int .i64 x4])) w where
 B:=j.B
 S:=j.S
 R:=j.R
 e:=j.e
 c:=j.c
 t:=j.t
 a:=j.a
 r:=j.r
 x:=fun _=>⟨u,rfl,hu⟩
 s:=j.s
theorem put {u y:Value} (j:Aq w0 gc gp gr base T1 cs T2 qs ps p x1 x2 x3 x4 ok L l v w) (h5:l 5=true) (h8:l 8=true) (h9:l 9=true) (h12:l 12=false) (hu:Rw.Own yY w base u L):Aq w0 gc gp gr base T1 cs T2 qs ps p x1 x2 x3 x4 ok L (Rg.upd l 12) (Rg.br v 12 y) (((((w.setCell ⟨gr,0,none⟩ (.int .i64 x1)).setCell ⟨gr,1,none⟩ (.int .i64 x2)).setCell ⟨gr,2,none⟩ u).setCell ⟨gr,3,none⟩ (.int .i64 x3)).setCell ⟨gr,4,none⟩ (.int .i64 x4)) where
 B:=((j.R h12).put ..).B
 S:=⟨_,(j.R h12).put ..⟩
 R:=fun h=>by cases h
 e:=fun _ h=>Rg.tf h5 h
 c:=fun _ h=>Rg.tf h8 h
 t:=fun _ h=>Rg.tf h8 h
 a:=fun _ h=>Rg.tf h9 h
 r:=fun h=>by
  obtain ⟨u,e,ho⟩:=j.r h;exact ⟨u,e,ho.uG (j.R h12).lr ..⟩
 x:=fun h=>by
  obtain ⟨u,e,ho⟩:=j.x h;exact ⟨u,e,ho.uG (j.R h12).lr ..⟩
 s:=fun _=>⟨u,(j.R h12).put ..,hu.uG (j.R h12).lr ..⟩
end Aq
end
end Go.Proofs.YtgfkcoablfjbcaaGreat
