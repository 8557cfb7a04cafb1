/-
  Joined texts: contracts and plain lemmas.
-/
import Derived.Test.YtgfkcoablfjbcaaGreatY1
import Derived.Test.YtgfkcoablfjbcaaGreatY27
import Derived.Test.YtgfkcoablfjbcaaGreatY3
import Derived.Test.YtgfkcoablfjbcaaGreatY13
import Derived.Test.YtgfkcoablfjbcaaGreatY2
import Derived.Test.YtgfkcoablfjbcaaGreatY25
import Derived.Test.YtgfkcoablfjbcaaGreatY22
import Derived.Test.YtgfkcoablfjbcaaGreatRows
import Derived.WalkKit
import Derived.ProofKit
import Derived.OpenShut
import Derived.Lib.SmallJoins
import Derived.Below
import Derived.Carry
import Derived.Deep.Slices
set_option linter.unusedSimpArgs false
set_option linter.unusedVariables false
set_option maxRecDepth 100000
set_option maxHeartbeats 8000000
namespace Go.Proofs.YtgfkcoablfjbcaaGreat
section
open Go.RowKit Go.Shelf
theorem aH.b7 {W:World} {g:Nat} {T:TypeId} {u v x y z:Value} (h:aH W g T #[u,v,x,y,z]):W.cell? ⟨g,0,none⟩=some u∧W.cell? ⟨g,1,none⟩=some v∧W.cell? ⟨g,2,none⟩=some x∧W.cell? ⟨g,3,none⟩=some y∧W.cell? ⟨g,4,none⟩=some z:=⟨h.cell 0,h.cell 1,h.cell 2,h.cell 3,h.cell 4⟩
theorem aH.ry {W:World} {g:Nat} {T:TypeId} {u v x y z:Value} (h:aH W g T #[u,v,x,y,z]):W.frozen? ⟨g,0,none⟩=false∧W.frozen? ⟨g,1,none⟩=false∧W.frozen? ⟨g,2,none⟩=false∧W.frozen? ⟨g,3,none⟩=false∧W.frozen? ⟨g,4,none⟩=false∧g<W.heap.size:=⟨h.frz 0,h.frz 1,h.frz 2,h.frz 3,h.frz 4,h.lt⟩
theorem j9 (a b:Int) (w:World) :
  Calls Tryz.prog 40 #[.agg #[.int .i64 a,.int .i64 b]] w fun e w'=>e=.returned (.agg #[.int .i64 a,.int .i64 b])∧Below w.heap.size w w':=by
 go_enter Tryz.func40,Tryz.ntmps40
 go_wp2
 exact bodyPost_ret (v:=.agg #[.int .i64 a,.int .i64 b]) (by simp [results,Tryz.results40,go_sem, *]) rfl (⟨rfl,(by repeat (first | exact ww _ _ | refine aR ?_ _ | refine aS ?_ (by assumption) | refine Below.drew ?_ | refine wu ?_ (by first | exact xA _ | exact Nat.le_add_right _ _ | (simp <;> omega)) _ | refine aL ?_ _))⟩)
theorem jv (a b c d:Int) (w:World) :
  Calls Tryz.prog 43 #[.agg #[.int .i64 a,.int .i64 b],.agg #[.int .i64 c,.int .i64 d]] w fun e w'=>e=.returned (.bool (a == c && b == d))∧Below w.heap.size w w':=by
 by_cases h1:a=c <;> by_cases h2:b=d
 all_goals
  go_enter Tryz.func43,Tryz.ntmps43
  go_wp2
  go_ret;exact ⟨cj (by simp [h1,h2]),(by repeat (first | exact ww _ _ | refine aR ?_ _ | refine aS ?_ (by assumption) | refine Below.drew ?_ | refine wu ?_ (by first | exact xA _ | exact Nat.le_add_right _ _ | (simp <;> omega)) _ | refine aL ?_ _))⟩
theorem fF (a b n d:Int) (v:Value) (xs:List Pt) (w:World) (hx:cJ w v xs) :
  Calls Tryz.prog 18 #[.agg #[.int .i64 a,.int .i64 b,v,.int .i64 n,.int .i64 d],.int .i64 1048576] w fun e w'=>e=.returned (.int .i64 (if xs.length≤1048576 then (1048576 - xs.length:Int) else -1))∧Below w.heap.size w w':=by
 have SZ:=fun W h=>oQ v xs W h
 obtain ⟨wc,hw3,C,B⟩:=fZ w #[.int .i64 a,.int .i64 b,v,.int .i64 n,.int .i64 d] 41
 have hxc:=ws (hx.keep B)
 have ⟨c0,c1,c2,c3,c4⟩:=C.b7
 obtain ⟨A,cap,rfl,-,-⟩:=hx
 by_cases h:xs.length≤1048576
 ·simp only [if_pos h] at SZ ⊢
  replace SZ:=ws SZ
  generalize xs.length=L at *
  have hL:0≤(1048576:Int) - L:=by omega
  generalize (1048576:Int) - L=M0 at *
  go_enter Tryz.func18,Tryz.ntmps18
  go_wp2_with (go_at_call 8;(refine (SZ.out _ hxc.out).mono ?_);rintro e w4 ⟨rfl,rfl⟩)
  go_ret
  exact ⟨rfl,B⟩
 simp only [if_neg h] at SZ ⊢
 replace SZ:=ws SZ
 generalize xs.length=L at *
 go_enter Tryz.func18,Tryz.ntmps18
 go_wp2_with (go_at_call 8;(refine (SZ.out _ hxc.out).mono ?_);rintro e w4 ⟨rfl,rfl⟩)
 go_ret
 exact ⟨rfl,B⟩
theorem iO (a b n d:Int) (v u:Value) (xs:List Pt) (w:World) (h1 h2:Nat) (hx:Rw.Seen EPt w h1 v xs) (hy:Rw.Seen EPt w h2 u xs) (hh1:h1≤w.heap.size) (hh2:h2≤w.heap.size) :
  Calls Tryz.prog 22 #[.agg #[.int .i64 a,.int .i64 b,v,.int .i64 n,.int .i64 d],.agg #[.int .i64 a,.int .i64 b,u,.int .i64 n,.int .i64 d]] w fun e w'=>e=.returned (.bool true)∧Below w.heap.size w w':=by
 have EQ:=fun W p q r s=>nh v u xs xs W h1 h2 p q r s
 have hd2:decide (xs=xs)=true:=by simp
 rw [hd2] at EQ
 clear hd2
 obtain ⟨wc,hw3,C,D,B⟩:=ph w #[.int .i64 a,.int .i64 b,v,.int .i64 n,.int .i64 d] 47 #[.int .i64 a,.int .i64 b,u,.int .i64 n,.int .i64 d] 47
 have HX:=ws (And.intro (hx.below (B.mono hh1)) (hy.below (B.mono hh2)))
 have HH:=ws (And.intro (Nat.le_trans hh1 B.size) (Nat.le_trans hh2 B.size))
 have ⟨c0,c1,c2,c3,c4⟩:=C.b7
 have ⟨d0,d1,d2,d3,d4⟩:=D.b7
 obtain ⟨A,cap,rfl,-,-⟩:=hx
 obtain ⟨A2,cap2,rfl,-,-⟩:=hy
 generalize xs.length=L at *
 replace EQ:=ws EQ
 clear hh1 hh2
 go_enter Tryz.func22,Tryz.ntmps22
 go_wp2_with first
  | (go_at_call 42;(refine (qA _ _ _ _ _).mono ?_);rintro e w4 ⟨rfl,hb4⟩;(replace HX:=ws (And.intro (HX.out.1.below (hb4.mono HH.out.1)) (HX.out.2.below (hb4.mono HH.out.2))));(replace HH:=ws (And.intro (Nat.le_trans HH.out.1 hb4.size) (Nat.le_trans HH.out.2 hb4.size)));(replace C:=C.keep hb4);(replace D:=D.keep hb4);(replace B:=B.trans (hb4.mono B.size));(have ⟨c0,c1,c2,c3,c4⟩:=C.b7);(have ⟨d0,d1,d2,d3,d4⟩:=D.b7))
  | (go_at_call 14;(refine (EQ.out _ HX.out.1 HX.out.2 HH.out.1 HH.out.2).mono ?_);rintro e w5 ⟨rfl,hb5⟩;(replace C:=C.keep hb5);(replace D:=D.keep hb5);(replace B:=B.trans (hb5.mono B.size));(have ⟨c0,c1,c2,c3,c4⟩:=C.b7);(have ⟨d0,d1,d2,d3,d4⟩:=D.b7))
  | (go_at_call 43;(refine (jv _ _ _ _ _).mono ?_);rintro e w6 ⟨rfl,hb6⟩;(replace B:=B.trans (hb6.mono B.size)))
 go_ret
 exact ⟨rfl,B⟩
theorem Rw.Own.fV {α:Type} {E:Rw.Enc α} {w:World} {base k i:Nat} {v:Value} {xs:List α} (h:Rw.Own E w base v xs) (hk:k<base) (x:Value):Rw.Own E (w.setCell ⟨k,i,none⟩ x) base v xs:=
 h.kept (Gr.set (World.grownBy.refl _ _) _ _) (fun g hg e=>by
  injection hg with hg
  have:=(h.lt _ e).1
  omega)
theorem iT (a b n d:Int) (v:Value) (xs:List Pt) (w:World) (hx:cJ w v xs) (hn:xs.length≤1048576) :
  Calls Tryz.prog 20 #[.agg #[.int .i64 a,.int .i64 b,v,.int .i64 n,.int .i64 d]] w fun e w'=>∃ v',e=.returned (.agg #[.int .i64 a,.int .i64 b,v',.int .i64 n,.int .i64 d])∧Rw.Own EPt w' w.heap.size v' xs∧Below w.heap.size w w':=by
 have TP:=fun W h=>oX v xs W h hn
 obtain ⟨wc,hw3,C,R,Z,B⟩:=nP w #[.int .i64 a,.int .i64 b,v,.int .i64 n,.int .i64 d] 41 #[.int .i64 0,.int .i64 0,.slice none 0 0,.int .i64 0,.int .i64 0] 47 #[.int .i64 0,.int .i64 0,.slice none 0 0,.int .i64 0,.int .i64 0] 47
 have Hx:=ws hx
 have ⟨c0,c1,c2,c3,c4⟩:=C.b7
 have ⟨z5,z6,z7,z8,z9,hz⟩:=Z.ry
 obtain ⟨A,cap,rfl,-,-⟩:=hx
 replace TP:=ws TP
 go_enter Tryz.func20,Tryz.ntmps20
 go_wp2_with first
  | (go_at_call 10;(refine (oW _ _ _).mono ?_);rintro e w4 ⟨rfl,hb4⟩;(replace C:=C.keep hb4);(replace R:=R.keep hb4);(replace Z:=Z.keep hb4);(replace B:=B.trans (hb4.mono B.size));(have ⟨z5,z6,z7,z8,z9,hz⟩:=Z.ry);(have ⟨z0,z1,z2,z3,z4⟩:=Z.b7);(replace C:=(C.other (k:=w.heap.size+1+1) (i:=0) (by omega) (.int .i64 a)).other (k:=w.heap.size+1+1) (i:=1) (by omega) (.int .i64 b));(replace R:=(R.other (k:=w.heap.size+1+1) (i:=0) (by omega) (.int .i64 a)).other (k:=w.heap.size+1+1) (i:=1) (by omega) (.int .i64 b));(replace Z:=(Z.set 0 (.int .i64 a)).set 1 (.int .i64 b));(replace B:=wu (wu (p:=⟨w.heap.size+1+1,0,none⟩) B (by show w.heap.size≤w.heap.size+1+1;omega) (.int .i64 a)) (p:=⟨w.heap.size+1+1,1,none⟩) (by show w.heap.size≤w.heap.size+1+1;omega) (.int .i64 b));(have ⟨c0,c1,c2,c3,c4⟩:=C.b7))
  | (go_at_call 11;(have hlz:=Z.lt);(have hlr:=R.lt);(refine (TP.out _ (Hx.out.keep B)).mono ?_);rintro e w5 ⟨v5,rfl,o5,hb5⟩;obtain ⟨A5,cap5,rfl,-⟩:=o5.seen;(replace C:=C.keep hb5);(replace R:=R.keep hb5);(replace Z:aH _ _ _ #[.int .i64 a,.int .i64 b,.slice none 0 0,.int .i64 0,.int .i64 0]:=Z.keep hb5);(replace B:=B.trans (hb5.mono B.size));(have ⟨z5,z6,z7,z8,z9,hz⟩:=Z.ry);(have ⟨z0,z1,z2,z3,z4⟩:=Z.b7);(replace C:=C.other (k:=w.heap.size+1+1) (i:=2) (by omega) (.slice A5 xs.length cap5));(replace R:=R.other (k:=w.heap.size+1+1) (i:=2) (by omega) (.slice A5 xs.length cap5));(replace Z:aH _ _ _ #[.int .i64 a,.int .i64 b,.slice A5 xs.length cap5,.int .i64 0,.int .i64 0]:=Z.set 2 (.slice A5 xs.length cap5));(replace B:=wu (p:=⟨w.heap.size+1+1,2,none⟩) B (by show w.heap.size≤w.heap.size+1+1;omega) (.slice A5 xs.length cap5));(replace o5:=o5.fV (i:=2) hlz (.slice A5 xs.length cap5));(have ⟨c0,c1,c2,c3,c4⟩:=C.b7))
  | (go_at_call 40;(refine (j9 _ _ _).mono ?_);rintro e w6 ⟨rfl,hb6⟩;(replace C:=C.keep hb6);(replace R:=R.keep hb6);(replace Z:=Z.keep hb6);(replace o5:=o5.below hb6);(replace B:=B.trans (hb6.mono B.size));(have ⟨z5,z6,z7,z8,z9,hz⟩:=Z.ry);(have ⟨z0,z1,z2,z3,z4⟩:=Z.b7);(replace R:=R.other (k:=w.heap.size+1+1) (i:=3) (by omega) (.int .i64 n));(replace R:=R.other (k:=w.heap.size+1+1) (i:=4) (by omega) (.int .i64 d));(replace Z:aH _ _ _ #[.int .i64 a,.int .i64 b,.slice A5 xs.length cap5,.int .i64 n,.int .i64 d]:=(Z.set 3 (.int .i64 n)).set 4 (.int .i64 d));(replace B:=wu (p:=⟨w.heap.size+1+1,3,none⟩) B (by show w.heap.size≤w.heap.size+1+1;omega) (.int .i64 n));(replace B:=wu (p:=⟨w.heap.size+1+1,4,none⟩) B (by show w.heap.size≤w.heap.size+1+1;omega) (.int .i64 d));(replace o5:=(o5.fV (i:=3) hlz (.int .i64 n)).fV (i:=4) hlz (.int .i64 d));(have ⟨y0,y1,y2,y3,y4⟩:=Z.b7);(have ⟨r0,r1,r2,r3,r4⟩:=R.b7);(have ⟨r5,r6,r7,r8,r9,_⟩:=R.ry);(clear C))
 exact bodyPost_ret (v:=.agg #[.int .i64 a,.int .i64 b,.slice A5 xs.length cap5,.int .i64 n,.int .i64 d]) (by simp [results,Tryz.results20,go_sem, *]) rfl (⟨_,rfl,((((((o5.fV (i:=0) hlr _).fV (i:=1) hlr _).fV (i:=2) hlr _).fV (i:=3) hlr _).fV (i:=4) hlr _).down (Nat.le_trans (by omega) (Nat.le_of_lt hlz))),wu (wu (wu (wu (wu B (by simp) _) (by simp) _) (by simp) _) (by simp) _) (by simp) _⟩)
end
section
open Go.RowKit
namespace M
theorem mb {a b:Int} {l:List Pt} (h:cR a b l=true):good a b=true∧1≤l.length∧l.length≤4∧∀ p ∈ l,bS a b p.1 p.2.1 p.2.2=true:=by
 unfold cR at h
 rw [Bool.and_eq_true,Bool.and_eq_true] at h
 obtain ⟨⟨h1,h2⟩,h3⟩:=h
 unfold ins at h2
 simp only [Bool.and_eq_true,decide_eq_true_eq] at h2
 exact ⟨h1,by omega,by omega,List.all_eq_true.1 h3⟩
theorem pT {a b:Int} {l:List Pt}:okS (cM a b l):=by
 cases h:mOk a b l
 ·rw [lN h];exact d7
 rw [jd h];exact ij (jY h) _
end M
end
section
open Go.RowKit Go.Shelf
theorem Rw.From.keep {α:Type} {E:Rw.Enc α} {w w':World} {H:Nat} {ys:List α} (h:Rw.From E w (some ⟨H,0,none⟩) ys) (hH:H<w.heap.size) (hb:Below w.heap.size w w'):Rw.From E w' (some ⟨H,0,none⟩) ys:=by
 intro j u hu
 obtain ⟨ad,h1,h2⟩:=h j u hu
 obtain rfl:=Option.some.inj h1
 have hblk:((⟨H,0,none⟩:Addr).add j).block=H:=by unfold Addr.add;split <;> rfl
 exact ⟨_,rfl,(hb.cell (p:=(⟨H,0,none⟩:Addr).add j) (by rw [hblk];exact hH)).trans h2⟩
structure KpJ (W0:World) (ps:List Pt) (p:Pt) (T:TypeId) (ret:Value) (zs us:Array Value) (l:Nat→Bool) (v:Nat→Value) (w:World):Prop where
 B:Below W0.heap.size W0 w
 c:l 2=true→l 5=false→Rw.Own EPt w W0.heap.size (v 2) ps
 t:l 4=true→l 5=false→∃ H,v 4=.slice (some ⟨H,0,none⟩) 1 1∧H<w.heap.size∧Rw.From EPt w (some ⟨H,0,none⟩) [p]
 a:l 5=true→l 6=false→Rw.Own EPt w W0.heap.size (v 5) (ps ++ [p])
 r:l 6=true→v 6=ret
 n:l 10=true→l 11=false→∃ H,v 10=.pointer (some ⟨H,0,none⟩)∧W0.heap.size≤H∧aH w H T zs
 s:l 11=true→∃ H,v 10=.pointer (some ⟨H,0,none⟩)∧W0.heap.size≤H∧aH w H T us
namespace KpJ
variable {W0:World} {ps:List Pt} {p:Pt} {T:TypeId} {ret:Value} {zs us:Array Value} {l l':Nat→Bool} {v v':Nat→Value} {w w':World}
theorem start:KpJ W0 ps p T ret zs us (fun _=>false) v { W0 with drawn:=W0.drawn+1 } where
 B:=(ww _ _).drew
 c:=fun h=>by cases h
 t:=fun h=>by cases h
 a:=fun h=>by cases h
 r:=fun h=>by cases h
 n:=fun h=>by cases h
 s:=fun h=>by cases h
theorem congr (h:∀ i ∈ [2,4,5,6,10,11],l i=l' i∧v i=v' i) (j:KpJ W0 ps p T ret zs us l v w):KpJ W0 ps p T ret zs us l' v' w:=by
 have h1:=h 2 (by simp)
 have h2:=h 4 (by simp)
 have h3:=h 5 (by simp)
 have h4:=h 6 (by simp)
 have h5:=h 10 (by simp)
 have h6:=h 11 (by simp)
 obtain ⟨jB,jc,jt,ja,jr,jn,js⟩:=j
 rw [h1.1,h1.2,h3.1] at jc
 rw [h2.1,h2.2,h3.1] at jt
 rw [h3.1,h3.2,h4.1] at ja
 rw [h4.1,h4.2] at jr
 rw [h5.1,h5.2,h6.1] at jn
 rw [h6.1,h5.2] at js
 exact ⟨jB,jc,jt,ja,jr,jn,js⟩
theorem keep (j:KpJ W0 ps p T ret zs us l v w) (hb:Below w.heap.size w w'):KpJ W0 ps p T ret zs us l v w' where
 B:=j.B.trans (hb.mono j.B.size)
 c:=fun h1 h2=>(j.c h1 h2).below hb
 t:=fun h1 h2=>by
  obtain ⟨H,e,hH,hf⟩:=j.t h1 h2
  exact ⟨H,e,Nat.lt_of_lt_of_le hH hb.size,hf.keep hH hb⟩
 a:=fun h1 h2=>(j.a h1 h2).below hb
 r:=j.r
 n:=fun h1 h2=>by
  obtain ⟨H,e,hH,hf⟩:=j.n h1 h2
  exact ⟨H,e,hH,hf.keep hb⟩
 s:=fun h1=>by
  obtain ⟨H,e,hH,hf⟩:=j.s h1
  exact ⟨H,e,hH,hf.keep hb⟩
theorem lit (j:KpJ W0 ps p T ret zs us l v w):KpJ W0 ps p T ret zs us (Rg.upd l 4) (Rg.dP v 4 (.slice (some ⟨w.heap.size,0,none⟩) 1 1)) (w.alloc (.cells #[.int .i64 p.1,.int .i64 p.2.1,.int .i64 p.2.2] 57)) where
 B:=(j.keep (bA w _)).B
 c:=(j.keep (bA w _)).c
 t:=fun _ _=>⟨w.heap.size,rfl,by simp,Rw.From.lit EPt w p _ rfl⟩
 a:=(j.keep (bA w _)).a
 r:=j.r
 n:=(j.keep (bA w _)).n
 s:=(j.keep (bA w _)).s
theorem put {u:Value} {H:Nat} (j:KpJ W0 ps p T ret zs us l v w) (h2:l 2=true) (h4:l 4=true) (h5:l 5=true) (h6:l 6=true) (h10:v 10=.pointer (some ⟨H,0,none⟩)) (hH:W0.heap.size≤H) (hV:aH w' H T us) (hB:Below W0.heap.size W0 w'):KpJ W0 ps p T ret zs us (Rg.upd l 11) (Rg.dP v 11 u) w' where
 B:=hB
 c:=fun _ h=>by
  have h:l 5=false:=h
  rw [h5] at h;cases h
 t:=fun _ h=>by
  have h:l 5=false:=h
  rw [h5] at h;cases h
 a:=fun _ h=>by
  have h:l 6=false:=h
  rw [h6] at h;cases h
 r:=j.r
 n:=fun _ h=>by cases h
 s:=fun _=>⟨H,h10,hH,hV⟩
end KpJ
structure KqJ (W0:World) (ps:List Pt) (p:Pt) (l:Nat→Bool) (v:Nat→Value) (w:World):Prop where
 B:Below W0.heap.size W0 w
 e:l 0=true→l 2=false→Rw.Own EPt w W0.heap.size (v 0) []
 c:l 2=true→l 5=false→Rw.Own EPt w W0.heap.size (v 2) ps
 t:l 4=true→l 5=false→∃ H,v 4=.slice (some ⟨H,0,none⟩) 1 1∧H<w.heap.size∧W0.heap.size≤H∧Rw.From EPt w (some ⟨H,0,none⟩) [p]∧(l 0=true→l 2=false→(v 0).ownBlock≠some H)
 a:l 5=true→Rw.Own EPt w W0.heap.size (v 5) (ps ++ [p])
 m:l 6=true→Rw.Own EPt w W0.heap.size (v 6) (ps ++ [p])
namespace KqJ
variable {W0:World} {ps:List Pt} {p:Pt} {l l':Nat→Bool} {v v':Nat→Value} {w w':World}
theorem start:KqJ W0 ps p (fun _=>false) v { W0 with drawn:=W0.drawn+1 } where
 B:=(ww _ _).drew
 e:=fun h=>by cases h
 c:=fun h=>by cases h
 t:=fun h=>by cases h
 a:=fun h=>by cases h
 m:=fun h=>by cases h
theorem congr (h:∀ i ∈ [0,2,4,5,6],l i=l' i∧v i=v' i) (j:KqJ W0 ps p l v w):KqJ W0 ps p l' v' w:=by
 have h1:=h 0 (by simp)
 have h2:=h 2 (by simp)
 have h3:=h 4 (by simp)
 have h4:=h 5 (by simp)
 have h5:=h 6 (by simp)
 obtain ⟨jB,je,jc,jt,ja,jm⟩:=j
 rw [h1.1,h1.2,h2.1] at je
 rw [h2.1,h2.2,h4.1] at jc
 rw [h3.1,h3.2,h4.1,h1.1,h1.2,h2.1] at jt
 rw [h4.1,h4.2] at ja
 rw [h5.1,h5.2] at jm
 exact ⟨jB,je,jc,jt,ja,jm⟩
theorem keep (j:KqJ W0 ps p l v w) (hb:Below w.heap.size w w'):KqJ W0 ps p l v w' where
 B:=j.B.trans (hb.mono j.B.size)
 e:=fun h1 h2=>(j.e h1 h2).below hb
 c:=fun h1 h2=>(j.c h1 h2).below hb
 t:=fun h1 h2=>by
  obtain ⟨H,e,hH,h0,hf,hn⟩:=j.t h1 h2
  exact ⟨H,e,Nat.lt_of_lt_of_le hH hb.size,h0,hf.keep hH hb,hn⟩
 a:=fun h1=>(j.a h1).below hb
 m:=fun h1=>(j.m h1).below hb
theorem lit (j:KqJ W0 ps p l v w):KqJ W0 ps p (Rg.upd l 4) (Rg.dP v 4 (.slice (some ⟨w.heap.size,0,none⟩) 1 1)) (w.alloc (.cells #[.int .i64 p.1,.int .i64 p.2.1,.int .i64 p.2.2] 57)) where
 B:=(j.keep (bA w _)).B
 e:=(j.keep (bA w _)).e
 c:=(j.keep (bA w _)).c
 t:=fun _ _=>⟨w.heap.size,rfl,by simp,j.B.size,Rw.From.lit EPt w p _ rfl,fun h1 h2 q=>by
  have:=((j.e h1 h2).lt _ q).2
  omega⟩
 a:=(j.keep (bA w _)).a
 m:=(j.keep (bA w _)).m
theorem take (j:KqJ W0 ps p l v w) (h5:l 5=true):KqJ W0 ps p (Rg.upd l 6) (Rg.dP v 6 (v 5)) w where
 B:=j.B
 e:=j.e
 c:=j.c
 t:=j.t
 a:=j.a
 m:=fun _=>j.a h5
end KqJ
namespace M
noncomputable def fM (a b:Int) (l:List Pt) (n d:Int):Bool:=cR a b l && (dy n d && decide (0<n))
theorem rZ {a b:Int} {l:List Pt} {n d:Int} (h:cR a b l=false):fM a b l n d=false:=by unfold fM;rw [h];rfl
theorem rb {a b:Int} {l:List Pt} {n d:Int} (h:dy n d=false):fM a b l n d=false:=by unfold fM;rw [h,Bool.false_and,Bool.and_false]
theorem rc {a b:Int} {l:List Pt} {n d:Int} (h1:cR a b l=true) (h2:dy n d=true):fM a b l n d=decide (n > 0):=by unfold fM;rw [h1,h2];rfl
theorem ov {a b:Int} {l:List Pt} {n d:Int} (h:fM a b l n d=true):cR a b l=true∧dy n d=true∧0<n:=by
 unfold fM at h
 simp only [Bool.and_eq_true,decide_eq_true_eq] at h
 exact ⟨h.1,h.2.1,h.2.2⟩
end M
theorem slV {w:World} {v:Value} {l:List Pt} (h:eG w v l):∃ sa cap,v=.slice sa l.length cap:=by
 obtain ⟨a,cap,e,-⟩:=h
 exact ⟨a,cap,e⟩
theorem iP (a b n d:Int) (v:Value) (l:List Pt) (g:Nat) (w:World) (C:aH w g 47 #[.int .i64 a,.int .i64 b,v,.int .i64 n,.int .i64 d]) (hx:eG w v l) (hn:l.length≤4000000) :
  Calls Tryz.prog 41 #[.pointer (some ⟨g,0,none⟩)] w fun e w'=>e=.returned (.bool (M.fM a b l n d))∧Below w.heap.size w w':=by
 obtain ⟨sa,cap,rfl⟩:=slV hx
 have PL:=fun W h=>mc a b (.slice sa l.length cap) l W h hn
 have PF:=fun W=>kz n d W
 replace hx:=ws hx
 have h1:=fun h=>M.rZ (a:=a) (b:=b) (l:=l) (n:=n) (d:=d) h
 have h2:=fun h=>M.rb (a:=a) (b:=b) (l:=l) (n:=n) (d:=d) h
 have h3:=fun h=>M.rc (a:=a) (b:=b) (l:=l) (n:=n) (d:=d) h
 generalize M.fM a b l n d=ok at *
 have ⟨c0,c1,c2,c3,c4⟩:=C.b7
 generalize M.cR a b l=p at *
 generalize dy n d=f at *
 generalize l.length=L at *
 cases p with
 | false=>
  replace PL:=ws PL
  replace PF:=ws PF
  obtain rfl:ok=false:=h1 rfl
  clear h1 h2 h3
  go_enter Tryz.func41,Tryz.ntmps41
  go_upto_region 1 with fail
  refine Rg.bG 25 [.is (.pointer (some ⟨g,0,none⟩)),.is (.pointer (some ⟨g,0,none⟩)),.is (.pointer (some ⟨g,0,none⟩)),.is (.agg #[.int .i64 a,.int .i64 b]),.is (.pointer (some ⟨g,0,none⟩)),.is (.pointer (some ⟨g,0,none⟩)),.is (.pointer (some ⟨g,2,none⟩)),.is (.slice sa L cap),.is (.bool false),.is (.bool false),.is (undef),.is (undef),.is (undef),.is (undef),.is (undef),.is (.bool false),.is (.bool false),.is (undef),.is (undef),.is (undef),.is (undef),.is (undef),.is (undef),.is (.bool false),.is (.bool false)] (by kernel_rfl) (by kernel_rfl) (by kernel_rfl) ⟨?_,?_,?_,?_,?_,?_,?_,?_,?_,?_,?_,?_,?_,?_,?_,?_,?_,?_,?_,?_,?_,?_,?_,?_,?_,trivial⟩ ?_
  ·intro _ ac_ w_ hB hr
   have e0:ac_.tmps[0]?=some (.pointer (some ⟨g,0,none⟩)):=hr 0 (by decide)
   exact Rg.aG rfl (by go_simp)
  ·intro _ ac_ w_ hB hr
   have e3:=Rg.ev1 (hr 3 (by decide))
   exact Rg.aG rfl (by go_simp)
  ·intro _ ac_ w_ hB hr
   have e4:=Rg.ev1 (hr 4 (by decide))
   exact Rg.aG rfl (by go_simp)
  ·intro _ ac_ w_ hB hr
   have e5:=Rg.ev1 (hr 5 (by decide))
   have k0:=aE hB c0
   have k1:=aE hB c1
   exact Rg.aG rfl (by go_simp)
  ·intro _ ac_ w_ hB hr
   have e0:ac_.tmps[0]?=some (.pointer (some ⟨g,0,none⟩)):=hr 0 (by decide)
   exact Rg.aG rfl (by go_simp)
  ·intro _ ac_ w_ hB hr
   have e7:=Rg.ev1 (hr 7 (by decide))
   exact Rg.aG rfl (by go_simp)
  ·intro _ ac_ w_ hB hr
   have e8:=Rg.ev1 (hr 8 (by decide))
   exact Rg.aG rfl (by go_simp)
  ·intro _ ac_ w_ hB hr
   have e9:=Rg.ev1 (hr 9 (by decide))
   have k2:=aE hB c2
   exact Rg.aG rfl (by go_simp)
  ·intro _ ac_ w_ hB hr
   have e6:=Rg.ev1 (hr 6 (by decide))
   have e10:=Rg.ev1 (hr 10 (by decide))
   have ef:=Rg.ef ac_
   exact Rg.bR rfl (by go_simp) (PL.out _ (hx.out.below hB))
  ·intro _ ac_ w_ hB hr
   have e11:=Rg.ev1 (hr 11 (by decide))
   exact Rg.aG rfl (by go_simp)
  ·intro _ ac_ w_ hB hr
   have e0:ac_.tmps[0]?=some (.pointer (some ⟨g,0,none⟩)):=hr 0 (by decide)
   have e12:=Rg.ev1 (hr 12 (by decide))
   exact Rg.bE (Rg.ae (j:=9) (b:=false) rfl (Rg.yld rfl e12))
  ·intro _ ac_ w_ hB hr
   have e12:=Rg.ev1 (hr 12 (by decide))
   have e13:=Rg.ev1 (hr 13 (by decide))
   exact Rg.bE (Rg.ae (j:=9) (b:=false) rfl (Rg.yld rfl e12))
  ·intro _ ac_ w_ hB hr
   have e12:=Rg.ev1 (hr 12 (by decide))
   have e14:=Rg.ev1 (hr 14 (by decide))
   exact Rg.bE (Rg.ae (j:=9) (b:=false) rfl (Rg.yld rfl e12))
  ·intro _ ac_ w_ hB hr
   have e12:=Rg.ev1 (hr 12 (by decide))
   have e15:=Rg.ev1 (hr 15 (by decide))
   exact Rg.bE (Rg.ae (j:=9) (b:=false) rfl (Rg.yld rfl e12))
  ·intro _ ac_ w_ hB hr
   have e12:=Rg.ev1 (hr 12 (by decide))
   have e16:=Rg.ev1 (hr 16 (by decide))
   exact Rg.bE (Rg.ae (j:=9) (b:=false) rfl (Rg.yld rfl e12))
  ·intro _ ac_ w_ hB hr
   have e12:=Rg.ev1 (hr 12 (by decide))
   have e17:=Rg.ev1 (hr 17 (by decide))
   have ec:=Rg.ec ac_
   exact Rg.aG rfl (by go_simp)
  ·intro _ ac_ w_ hB hr
   have e18:=Rg.ev1 (hr 18 (by decide))
   exact Rg.aG rfl (by go_simp)
  ·intro _ ac_ w_ hB hr
   have e0:ac_.tmps[0]?=some (.pointer (some ⟨g,0,none⟩)):=hr 0 (by decide)
   have e19:=Rg.ev1 (hr 19 (by decide))
   exact Rg.bE (Rg.ae (j:=16) (b:=false) rfl (Rg.yld rfl e19))
  ·intro _ ac_ w_ hB hr
   have e19:=Rg.ev1 (hr 19 (by decide))
   have e20:=Rg.ev1 (hr 20 (by decide))
   exact Rg.bE (Rg.ae (j:=16) (b:=false) rfl (Rg.yld rfl e19))
  ·intro _ ac_ w_ hB hr
   have e19:=Rg.ev1 (hr 19 (by decide))
   have e21:=Rg.ev1 (hr 21 (by decide))
   exact Rg.bE (Rg.ae (j:=16) (b:=false) rfl (Rg.yld rfl e19))
  ·intro _ ac_ w_ hB hr
   have e19:=Rg.ev1 (hr 19 (by decide))
   have e22:=Rg.ev1 (hr 22 (by decide))
   exact Rg.bE (Rg.ae (j:=16) (b:=false) rfl (Rg.yld rfl e19))
  ·intro _ ac_ w_ hB hr
   have e19:=Rg.ev1 (hr 19 (by decide))
   have e23:=Rg.ev1 (hr 23 (by decide))
   exact Rg.bE (Rg.ae (j:=16) (b:=false) rfl (Rg.yld rfl e19))
  ·intro _ ac_ w_ hB hr
   have e19:=Rg.ev1 (hr 19 (by decide))
   have e24:=Rg.ev1 (hr 24 (by decide))
   have ec:=Rg.ec ac_
   exact Rg.bE (Rg.ae (j:=16) (b:=false) rfl (Rg.yld rfl e19))
  ·intro _ ac_ w_ hB hr
   have e19:=Rg.ev1 (hr 19 (by decide))
   have e25:=Rg.ev1 (hr 25 (by decide))
   have ec:=Rg.ec ac_
   exact Rg.aG rfl (by go_simp)
  ·intro _ ac_ w_ hB hr
   have e26:=Rg.ev1 (hr 26 (by decide))
   exact Rg.aG rfl (by go_simp)
  intro vals wz hB hv hne
  have v_24:vals 24=.bool false:=hv 24 (by decide)
  simp only [Rg.ak,Rg.fill,Act.put,Nat.reduceAdd]
  clear hv
  simp only [v_24]
  clear v_24
  unfold Rg.aW
  go_wp2
  go_ret
  exact ⟨rfl,hB⟩
 | true=>
 cases f with
 | false=>
  replace PL:=ws PL
  replace PF:=ws PF
  obtain rfl:ok=false:=h2 rfl
  clear h1 h2 h3
  go_enter Tryz.func41,Tryz.ntmps41
  go_upto_region 1 with fail
  refine Rg.bG 25 [.is (.pointer (some ⟨g,0,none⟩)),.is (.pointer (some ⟨g,0,none⟩)),.is (.pointer (some ⟨g,0,none⟩)),.is (.agg #[.int .i64 a,.int .i64 b]),.is (.pointer (some ⟨g,0,none⟩)),.is (.pointer (some ⟨g,0,none⟩)),.is (.pointer (some ⟨g,2,none⟩)),.is (.slice sa L cap),.is (.bool true),.is (.bool true),.is (.pointer (some ⟨g,0,none⟩)),.is (.pointer (some ⟨g,0,none⟩)),.is (.pointer (some ⟨g,3,none⟩)),.is (.agg #[.int .i64 n,.int .i64 d]),.is (.bool false),.is (.bool false),.is (.bool false),.is (undef),.is (undef),.is (undef),.is (undef),.is (undef),.is (undef),.is (.bool false),.is (.bool false)] (by kernel_rfl) (by kernel_rfl) (by kernel_rfl) ⟨?_,?_,?_,?_,?_,?_,?_,?_,?_,?_,?_,?_,?_,?_,?_,?_,?_,?_,?_,?_,?_,?_,?_,?_,?_,trivial⟩ ?_
  ·intro _ ac_ w_ hB hr
   have e0:ac_.tmps[0]?=some (.pointer (some ⟨g,0,none⟩)):=hr 0 (by decide)
   exact Rg.aG rfl (by go_simp)
  ·intro _ ac_ w_ hB hr
   have e3:=Rg.ev1 (hr 3 (by decide))
   exact Rg.aG rfl (by go_simp)
  ·intro _ ac_ w_ hB hr
   have e4:=Rg.ev1 (hr 4 (by decide))
   exact Rg.aG rfl (by go_simp)
  ·intro _ ac_ w_ hB hr
   have e5:=Rg.ev1 (hr 5 (by decide))
   have k0:=aE hB c0
   have k1:=aE hB c1
   exact Rg.aG rfl (by go_simp)
  ·intro _ ac_ w_ hB hr
   have e0:ac_.tmps[0]?=some (.pointer (some ⟨g,0,none⟩)):=hr 0 (by decide)
   exact Rg.aG rfl (by go_simp)
  ·intro _ ac_ w_ hB hr
   have e7:=Rg.ev1 (hr 7 (by decide))
   exact Rg.aG rfl (by go_simp)
  ·intro _ ac_ w_ hB hr
   have e8:=Rg.ev1 (hr 8 (by decide))
   exact Rg.aG rfl (by go_simp)
  ·intro _ ac_ w_ hB hr
   have e9:=Rg.ev1 (hr 9 (by decide))
   have k2:=aE hB c2
   exact Rg.aG rfl (by go_simp)
  ·intro _ ac_ w_ hB hr
   have e6:=Rg.ev1 (hr 6 (by decide))
   have e10:=Rg.ev1 (hr 10 (by decide))
   have ef:=Rg.ef ac_
   exact Rg.bR rfl (by go_simp) (PL.out _ (hx.out.below hB))
  ·intro _ ac_ w_ hB hr
   have e11:=Rg.ev1 (hr 11 (by decide))
   exact Rg.aG rfl (by go_simp)
  ·intro _ ac_ w_ hB hr
   have e0:ac_.tmps[0]?=some (.pointer (some ⟨g,0,none⟩)):=hr 0 (by decide)
   have e12:=Rg.ev1 (hr 12 (by decide))
   exact Rg.aG (Rg.aU (j:=9) (b:=true) rfl (Rg.yld rfl e12)) (by go_simp)
  ·intro _ ac_ w_ hB hr
   have e12:=Rg.ev1 (hr 12 (by decide))
   have e13:=Rg.ev1 (hr 13 (by decide))
   exact Rg.aG (Rg.aU (j:=9) (b:=true) rfl (Rg.yld rfl e12)) (by go_simp)
  ·intro _ ac_ w_ hB hr
   have e12:=Rg.ev1 (hr 12 (by decide))
   have e14:=Rg.ev1 (hr 14 (by decide))
   exact Rg.aG (Rg.aU (j:=9) (b:=true) rfl (Rg.yld rfl e12)) (by go_simp)
  ·intro _ ac_ w_ hB hr
   have e12:=Rg.ev1 (hr 12 (by decide))
   have e15:=Rg.ev1 (hr 15 (by decide))
   have k3:=aE hB c3
   have k4:=aE hB c4
   exact Rg.aG (Rg.aU (j:=9) (b:=true) rfl (Rg.yld rfl e12)) (by go_simp)
  ·intro _ ac_ w_ hB hr
   have e12:=Rg.ev1 (hr 12 (by decide))
   have e16:=Rg.ev1 (hr 16 (by decide))
   have ef:=Rg.ef ac_
   exact Rg.bR (Rg.aU (j:=9) (b:=true) rfl (Rg.yld rfl e12)) (by go_simp) (PF.out _)
  ·intro _ ac_ w_ hB hr
   have e12:=Rg.ev1 (hr 12 (by decide))
   have e17:=Rg.ev1 (hr 17 (by decide))
   have ec:=Rg.ec ac_
   exact Rg.aG rfl (by go_simp)
  ·intro _ ac_ w_ hB hr
   have e18:=Rg.ev1 (hr 18 (by decide))
   exact Rg.aG rfl (by go_simp)
  ·intro _ ac_ w_ hB hr
   have e0:ac_.tmps[0]?=some (.pointer (some ⟨g,0,none⟩)):=hr 0 (by decide)
   have e19:=Rg.ev1 (hr 19 (by decide))
   exact Rg.bE (Rg.ae (j:=16) (b:=false) rfl (Rg.yld rfl e19))
  ·intro _ ac_ w_ hB hr
   have e19:=Rg.ev1 (hr 19 (by decide))
   have e20:=Rg.ev1 (hr 20 (by decide))
   exact Rg.bE (Rg.ae (j:=16) (b:=false) rfl (Rg.yld rfl e19))
  ·intro _ ac_ w_ hB hr
   have e19:=Rg.ev1 (hr 19 (by decide))
   have e21:=Rg.ev1 (hr 21 (by decide))
   exact Rg.bE (Rg.ae (j:=16) (b:=false) rfl (Rg.yld rfl e19))
  ·intro _ ac_ w_ hB hr
   have e19:=Rg.ev1 (hr 19 (by decide))
   have e22:=Rg.ev1 (hr 22 (by decide))
   exact Rg.bE (Rg.ae (j:=16) (b:=false) rfl (Rg.yld rfl e19))
  ·intro _ ac_ w_ hB hr
   have e19:=Rg.ev1 (hr 19 (by decide))
   have e23:=Rg.ev1 (hr 23 (by decide))
   exact Rg.bE (Rg.ae (j:=16) (b:=false) rfl (Rg.yld rfl e19))
  ·intro _ ac_ w_ hB hr
   have e19:=Rg.ev1 (hr 19 (by decide))
   have e24:=Rg.ev1 (hr 24 (by decide))
   have ec:=Rg.ec ac_
   exact Rg.bE (Rg.ae (j:=16) (b:=false) rfl (Rg.yld rfl e19))
  ·intro _ ac_ w_ hB hr
   have e19:=Rg.ev1 (hr 19 (by decide))
   have e25:=Rg.ev1 (hr 25 (by decide))
   have ec:=Rg.ec ac_
   exact Rg.aG rfl (by go_simp)
  ·intro _ ac_ w_ hB hr
   have e26:=Rg.ev1 (hr 26 (by decide))
   exact Rg.aG rfl (by go_simp)
  intro vals wz hB hv hne
  have v_24:vals 24=.bool false:=hv 24 (by decide)
  simp only [Rg.ak,Rg.fill,Act.put,Nat.reduceAdd]
  clear hv
  simp only [v_24]
  clear v_24
  unfold Rg.aW
  go_wp2
  go_ret
  exact ⟨rfl,hB⟩
 | true=>
 replace PL:=ws PL
 replace PF:=ws PF
 by_cases hpos:n > 0
 ·have hd:decide (n > 0)=true:=decide_eq_true hpos
  obtain rfl:ok=true:=(h3 rfl rfl).trans hd
  clear h1 h2 h3
  go_enter Tryz.func41,Tryz.ntmps41
  go_upto_region 1 with fail
  refine Rg.bG 25 [.is (.pointer (some ⟨g,0,none⟩)),.is (.pointer (some ⟨g,0,none⟩)),.is (.pointer (some ⟨g,0,none⟩)),.is (.agg #[.int .i64 a,.int .i64 b]),.is (.pointer (some ⟨g,0,none⟩)),.is (.pointer (some ⟨g,0,none⟩)),.is (.pointer (some ⟨g,2,none⟩)),.is (.slice sa L cap),.is (.bool true),.is (.bool true),.is (.pointer (some ⟨g,0,none⟩)),.is (.pointer (some ⟨g,0,none⟩)),.is (.pointer (some ⟨g,3,none⟩)),.is (.agg #[.int .i64 n,.int .i64 d]),.is (.bool true),.is (.bool true),.is (.bool true),.is (.pointer (some ⟨g,0,none⟩)),.is (.pointer (some ⟨g,0,none⟩)),.is (.pointer (some ⟨g,3,none⟩)),.is (.pointer (some ⟨g,3,none⟩)),.is (.int .i64 n),.is (.bool true),.is (.bool true),.is (.bool true)] (by kernel_rfl) (by kernel_rfl) (by kernel_rfl) ⟨?_,?_,?_,?_,?_,?_,?_,?_,?_,?_,?_,?_,?_,?_,?_,?_,?_,?_,?_,?_,?_,?_,?_,?_,?_,trivial⟩ ?_
  ·intro _ ac_ w_ hB hr
   have e0:ac_.tmps[0]?=some (.pointer (some ⟨g,0,none⟩)):=hr 0 (by decide)
   exact Rg.aG rfl (by go_simp)
  ·intro _ ac_ w_ hB hr
   have e3:=Rg.ev1 (hr 3 (by decide))
   exact Rg.aG rfl (by go_simp)
  ·intro _ ac_ w_ hB hr
   have e4:=Rg.ev1 (hr 4 (by decide))
   exact Rg.aG rfl (by go_simp)
  ·intro _ ac_ w_ hB hr
   have e5:=Rg.ev1 (hr 5 (by decide))
   have k0:=aE hB c0
   have k1:=aE hB c1
   exact Rg.aG rfl (by go_simp)
  ·intro _ ac_ w_ hB hr
   have e0:ac_.tmps[0]?=some (.pointer (some ⟨g,0,none⟩)):=hr 0 (by decide)
   exact Rg.aG rfl (by go_simp)
  ·intro _ ac_ w_ hB hr
   have e7:=Rg.ev1 (hr 7 (by decide))
   exact Rg.aG rfl (by go_simp)
  ·intro _ ac_ w_ hB hr
   have e8:=Rg.ev1 (hr 8 (by decide))
   exact Rg.aG rfl (by go_simp)
  ·intro _ ac_ w_ hB hr
   have e9:=Rg.ev1 (hr 9 (by decide))
   have k2:=aE hB c2
   exact Rg.aG rfl (by go_simp)
  ·intro _ ac_ w_ hB hr
   have e6:=Rg.ev1 (hr 6 (by decide))
   have e10:=Rg.ev1 (hr 10 (by decide))
   have ef:=Rg.ef ac_
   exact Rg.bR rfl (by go_simp) (PL.out _ (hx.out.below hB))
  ·intro _ ac_ w_ hB hr
   have e11:=Rg.ev1 (hr 11 (by decide))
   exact Rg.aG rfl (by go_simp)
  ·intro _ ac_ w_ hB hr
   have e0:ac_.tmps[0]?=some (.pointer (some ⟨g,0,none⟩)):=hr 0 (by decide)
   have e12:=Rg.ev1 (hr 12 (by decide))
   exact Rg.aG (Rg.aU (j:=9) (b:=true) rfl (Rg.yld rfl e12)) (by go_simp)
  ·intro _ ac_ w_ hB hr
   have e12:=Rg.ev1 (hr 12 (by decide))
   have e13:=Rg.ev1 (hr 13 (by decide))
   exact Rg.aG (Rg.aU (j:=9) (b:=true) rfl (Rg.yld rfl e12)) (by go_simp)
  ·intro _ ac_ w_ hB hr
   have e12:=Rg.ev1 (hr 12 (by decide))
   have e14:=Rg.ev1 (hr 14 (by decide))
   exact Rg.aG (Rg.aU (j:=9) (b:=true) rfl (Rg.yld rfl e12)) (by go_simp)
  ·intro _ ac_ w_ hB hr
   have e12:=Rg.ev1 (hr 12 (by decide))
   have e15:=Rg.ev1 (hr 15 (by decide))
   have k3:=aE hB c3
   have k4:=aE hB c4
   exact Rg.aG (Rg.aU (j:=9) (b:=true) rfl (Rg.yld rfl e12)) (by go_simp)
  ·intro _ ac_ w_ hB hr
   have e12:=Rg.ev1 (hr 12 (by decide))
   have e16:=Rg.ev1 (hr 16 (by decide))
   have ef:=Rg.ef ac_
   exact Rg.bR (Rg.aU (j:=9) (b:=true) rfl (Rg.yld rfl e12)) (by go_simp) (PF.out _)
  ·intro _ ac_ w_ hB hr
   have e12:=Rg.ev1 (hr 12 (by decide))
   have e17:=Rg.ev1 (hr 17 (by decide))
   have ec:=Rg.ec ac_
   exact Rg.aG rfl (by go_simp)
  ·intro _ ac_ w_ hB hr
   have e18:=Rg.ev1 (hr 18 (by decide))
   exact Rg.aG rfl (by go_simp)
  ·intro _ ac_ w_ hB hr
   have e0:ac_.tmps[0]?=some (.pointer (some ⟨g,0,none⟩)):=hr 0 (by decide)
   have e19:=Rg.ev1 (hr 19 (by decide))
   exact Rg.aG (Rg.aU (j:=16) (b:=true) rfl (Rg.yld rfl e19)) (by go_simp)
  ·intro _ ac_ w_ hB hr
   have e19:=Rg.ev1 (hr 19 (by decide))
   have e20:=Rg.ev1 (hr 20 (by decide))
   exact Rg.aG (Rg.aU (j:=16) (b:=true) rfl (Rg.yld rfl e19)) (by go_simp)
  ·intro _ ac_ w_ hB hr
   have e19:=Rg.ev1 (hr 19 (by decide))
   have e21:=Rg.ev1 (hr 21 (by decide))
   exact Rg.aG (Rg.aU (j:=16) (b:=true) rfl (Rg.yld rfl e19)) (by go_simp)
  ·intro _ ac_ w_ hB hr
   have e19:=Rg.ev1 (hr 19 (by decide))
   have e22:=Rg.ev1 (hr 22 (by decide))
   exact Rg.aG (Rg.aU (j:=16) (b:=true) rfl (Rg.yld rfl e19)) (by go_simp)
  ·intro _ ac_ w_ hB hr
   have e19:=Rg.ev1 (hr 19 (by decide))
   have e23:=Rg.ev1 (hr 23 (by decide))
   have k3:=aE hB c3
   exact Rg.aG (Rg.aU (j:=16) (b:=true) rfl (Rg.yld rfl e19)) (by go_simp)
  ·intro _ ac_ w_ hB hr
   have e19:=Rg.ev1 (hr 19 (by decide))
   have e24:=Rg.ev1 (hr 24 (by decide))
   have ec:=Rg.ec ac_
   exact Rg.aG (Rg.aU (j:=16) (b:=true) rfl (Rg.yld rfl e19)) (by go_simp;first | done | exact hd)
  ·intro _ ac_ w_ hB hr
   have e19:=Rg.ev1 (hr 19 (by decide))
   have e25:=Rg.ev1 (hr 25 (by decide))
   have ec:=Rg.ec ac_
   exact Rg.aG rfl (by go_simp)
  ·intro _ ac_ w_ hB hr
   have e26:=Rg.ev1 (hr 26 (by decide))
   exact Rg.aG rfl (by go_simp)
  intro vals wz hB hv hne
  have v_24:vals 24=.bool true:=hv 24 (by decide)
  simp only [Rg.ak,Rg.fill,Act.put,Nat.reduceAdd]
  clear hv
  simp only [v_24]
  clear v_24
  unfold Rg.aW
  go_wp2
  go_ret
  exact ⟨rfl,hB⟩
 have hd:decide (n > 0)=false:=decide_eq_false hpos
 obtain rfl:ok=false:=(h3 rfl rfl).trans hd
 clear h1 h2 h3
 go_enter Tryz.func41,Tryz.ntmps41
 go_upto_region 1 with fail
 refine Rg.bG 25 [.is (.pointer (some ⟨g,0,none⟩)),.is (.pointer (some ⟨g,0,none⟩)),.is (.pointer (some ⟨g,0,none⟩)),.is (.agg #[.int .i64 a,.int .i64 b]),.is (.pointer (some ⟨g,0,none⟩)),.is (.pointer (some ⟨g,0,none⟩)),.is (.pointer (some ⟨g,2,none⟩)),.is (.slice sa L cap),.is (.bool true),.is (.bool true),.is (.pointer (some ⟨g,0,none⟩)),.is (.pointer (some ⟨g,0,none⟩)),.is (.pointer (some ⟨g,3,none⟩)),.is (.agg #[.int .i64 n,.int .i64 d]),.is (.bool true),.is (.bool true),.is (.bool true),.is (.pointer (some ⟨g,0,none⟩)),.is (.pointer (some ⟨g,0,none⟩)),.is (.pointer (some ⟨g,3,none⟩)),.is (.pointer (some ⟨g,3,none⟩)),.is (.int .i64 n),.is (.bool false),.is (.bool false),.is (.bool false)] (by kernel_rfl) (by kernel_rfl) (by kernel_rfl) ⟨?_,?_,?_,?_,?_,?_,?_,?_,?_,?_,?_,?_,?_,?_,?_,?_,?_,?_,?_,?_,?_,?_,?_,?_,?_,trivial⟩ ?_
 ·intro _ ac_ w_ hB hr
  have e0:ac_.tmps[0]?=some (.pointer (some ⟨g,0,none⟩)):=hr 0 (by decide)
  exact Rg.aG rfl (by go_simp)
 ·intro _ ac_ w_ hB hr
  have e3:=Rg.ev1 (hr 3 (by decide))
  exact Rg.aG rfl (by go_simp)
 ·intro _ ac_ w_ hB hr
  have e4:=Rg.ev1 (hr 4 (by decide))
  exact Rg.aG rfl (by go_simp)
 ·intro _ ac_ w_ hB hr
  have e5:=Rg.ev1 (hr 5 (by decide))
  have k0:=aE hB c0
  have k1:=aE hB c1
  exact Rg.aG rfl (by go_simp)
 ·intro _ ac_ w_ hB hr
  have e0:ac_.tmps[0]?=some (.pointer (some ⟨g,0,none⟩)):=hr 0 (by decide)
  exact Rg.aG rfl (by go_simp)
 ·intro _ ac_ w_ hB hr
  have e7:=Rg.ev1 (hr 7 (by decide))
  exact Rg.aG rfl (by go_simp)
 ·intro _ ac_ w_ hB hr
  have e8:=Rg.ev1 (hr 8 (by decide))
  exact Rg.aG rfl (by go_simp)
 ·intro _ ac_ w_ hB hr
  have e9:=Rg.ev1 (hr 9 (by decide))
  have k2:=aE hB c2
  exact Rg.aG rfl (by go_simp)
 ·intro _ ac_ w_ hB hr
  have e6:=Rg.ev1 (hr 6 (by decide))
  have e10:=Rg.ev1 (hr 10 (by decide))
  have ef:=Rg.ef ac_
  exact Rg.bR rfl (by go_simp) (PL.out _ (hx.out.below hB))
 ·intro _ ac_ w_ hB hr
  have e11:=Rg.ev1 (hr 11 (by decide))
  exact Rg.aG rfl (by go_simp)
 ·intro _ ac_ w_ hB hr
  have e0:ac_.tmps[0]?=some (.pointer (some ⟨g,0,none⟩)):=hr 0 (by decide)
  have e12:=Rg.ev1 (hr 12 (by decide))
  exact Rg.aG (Rg.aU (j:=9) (b:=true) rfl (Rg.yld rfl e12)) (by go_simp)
 ·intro _ ac_ w_ hB hr
  have e12:=Rg.ev1 (hr 12 (by decide))
  have e13:=Rg.ev1 (hr 13 (by decide))
  exact Rg.aG (Rg.aU (j:=9) (b:=true) rfl (Rg.yld rfl e12)) (by go_simp)
 ·intro _ ac_ w_ hB hr
  have e12:=Rg.ev1 (hr 12 (by decide))
  have e14:=Rg.ev1 (hr 14 (by decide))
  exact Rg.aG (Rg.aU (j:=9) (b:=true) rfl (Rg.yld rfl e12)) (by go_simp)
 ·intro _ ac_ w_ hB hr
  have e12:=Rg.ev1 (hr 12 (by decide))
  have e15:=Rg.ev1 (hr 15 (by decide))
  have k3:=aE hB c3
  have k4:=aE hB c4
  exact Rg.aG (Rg.aU (j:=9) (b:=true) rfl (Rg.yld rfl e12)) (by go_simp)
 ·intro _ ac_ w_ hB hr
  have e12:=Rg.ev1 (hr 12 (by decide))
  have e16:=Rg.ev1 (hr 16 (by decide))
  have ef:=Rg.ef ac_
  exact Rg.bR (Rg.aU (j:=9) (b:=true) rfl (Rg.yld rfl e12)) (by go_simp) (PF.out _)
 ·intro _ ac_ w_ hB hr
  have e12:=Rg.ev1 (hr 12 (by decide))
  have e17:=Rg.ev1 (hr 17 (by decide))
  have ec:=Rg.ec ac_
  exact Rg.aG rfl (by go_simp)
 ·intro _ ac_ w_ hB hr
  have e18:=Rg.ev1 (hr 18 (by decide))
  exact Rg.aG rfl (by go_simp)
 ·intro _ ac_ w_ hB hr
  have e0:ac_.tmps[0]?=some (.pointer (some ⟨g,0,none⟩)):=hr 0 (by decide)
  have e19:=Rg.ev1 (hr 19 (by decide))
  exact Rg.aG (Rg.aU (j:=16) (b:=true) rfl (Rg.yld rfl e19)) (by go_simp)
 ·intro _ ac_ w_ hB hr
  have e19:=Rg.ev1 (hr 19 (by decide))
  have e20:=Rg.ev1 (hr 20 (by decide))
  exact Rg.aG (Rg.aU (j:=16) (b:=true) rfl (Rg.yld rfl e19)) (by go_simp)
 ·intro _ ac_ w_ hB hr
  have e19:=Rg.ev1 (hr 19 (by decide))
  have e21:=Rg.ev1 (hr 21 (by decide))
  exact Rg.aG (Rg.aU (j:=16) (b:=true) rfl (Rg.yld rfl e19)) (by go_simp)
 ·intro _ ac_ w_ hB hr
  have e19:=Rg.ev1 (hr 19 (by decide))
  have e22:=Rg.ev1 (hr 22 (by decide))
  exact Rg.aG (Rg.aU (j:=16) (b:=true) rfl (Rg.yld rfl e19)) (by go_simp)
 ·intro _ ac_ w_ hB hr
  have e19:=Rg.ev1 (hr 19 (by decide))
  have e23:=Rg.ev1 (hr 23 (by decide))
  have k3:=aE hB c3
  exact Rg.aG (Rg.aU (j:=16) (b:=true) rfl (Rg.yld rfl e19)) (by go_simp)
 ·intro _ ac_ w_ hB hr
  have e19:=Rg.ev1 (hr 19 (by decide))
  have e24:=Rg.ev1 (hr 24 (by decide))
  have ec:=Rg.ec ac_
  exact Rg.aG (Rg.aU (j:=16) (b:=true) rfl (Rg.yld rfl e19)) (by go_simp;first | done | exact hd)
 ·intro _ ac_ w_ hB hr
  have e19:=Rg.ev1 (hr 19 (by decide))
  have e25:=Rg.ev1 (hr 25 (by decide))
  have ec:=Rg.ec ac_
  exact Rg.aG rfl (by go_simp)
 ·intro _ ac_ w_ hB hr
  have e26:=Rg.ev1 (hr 26 (by decide))
  exact Rg.aG rfl (by go_simp)
 intro vals wz hB hv hne
 have v_24:vals 24=.bool false:=hv 24 (by decide)
 simp only [Rg.ak,Rg.fill,Act.put,Nat.reduceAdd]
 clear hv
 simp only [v_24]
 clear v_24
 unfold Rg.aW
 go_wp2
 go_ret
 exact ⟨rfl,hB⟩
theorem ns (a b:Int) (v:Value) (l:List Pt) (w:World) (hx:eG w v l) (hn:l.length≤4000000) :
  Calls Tryz.prog 60 #[.agg #[.int .i64 a,.int .i64 b],v] w fun e w'=>e=.returned (.bool (M.cR a b l))∧Below w.heap.size w w':=by
 obtain ⟨sa,cap,rfl⟩:=slV hx
 have PL:=ws fun W h=>sL a b (.slice sa l.length cap) l W h hn
 obtain ⟨wc,hw3,C,B⟩:=fZ w #[.int .i64 a,.int .i64 b] 29
 have hxc:=ws (hx.below B)
 have C_c0:=C.box.c0
 have C_c1:=C.box.c1
 generalize M.cR a b l=p at *
 generalize l.length=L at *
 clear hx
 go_enter Tryz.func60,Tryz.ntmps60
 go_wp2_with (go_at_call 32;(refine (PL.out _ hxc.out).mono ?_);rintro e w4 ⟨rfl,hb4⟩;(replace B:=B.trans (hb4.mono B.size)))
 go_ret
 exact ⟨rfl,B⟩
theorem sP (a b n d:Int) (v:Value) (l:List Pt) (w:World) (hx:eG w v l) (hn:l.length≤4000000) :
  Calls Tryz.prog 38 #[.agg #[.int .i64 a,.int .i64 b,v,.int .i64 n,.int .i64 d]] w fun e w'=>e=.returned (.bool (M.fM a b l n d))∧Below w.heap.size w w':=by
 obtain ⟨sa,cap,rfl⟩:=slV hx
 have PL:=fun W h=>ns a b (.slice sa l.length cap) l W h hn
 have PF:=fun W=>jM n d W
 obtain ⟨wc,hw3,C,B⟩:=fZ w #[.int .i64 a,.int .i64 b,.slice sa l.length cap,.int .i64 n,.int .i64 d] 47
 have hxc:=ws (hx.below B)
 have h1:=fun h=>M.rZ (a:=a) (b:=b) (l:=l) (n:=n) (d:=d) h
 have h2:=fun h=>M.rb (a:=a) (b:=b) (l:=l) (n:=n) (d:=d) h
 have h3:=fun h=>M.rc (a:=a) (b:=b) (l:=l) (n:=n) (d:=d) h
 generalize M.fM a b l n d=ok at *
 have ⟨c0,c1,c2,c3,c4⟩:=C.b7
 generalize M.cR a b l=p at *
 generalize dy n d=f at *
 generalize l.length=L at *
 clear hx
 cases p with
 | false=>
  replace PL:=ws PL
  replace PF:=ws PF
  obtain rfl:ok=false:=h1 rfl
  clear h1 h2 h3
  go_enter Tryz.func38,Tryz.ntmps38
  go_wp2_with first | (go_at_call 60;(refine (PL.out _ hxc.out).mono ?_);rintro e w4 ⟨rfl,hb4⟩;(replace B:=B.trans (hb4.mono B.size));(replace C:=C.keep hb4);(have ⟨c0,c1,c2,c3,c4⟩:=C.b7)) | (go_at_call 61;(refine (PF.out _).mono ?_);rintro e w5 ⟨rfl,hb5⟩;(replace B:=B.trans (hb5.mono B.size));(replace C:=C.keep hb5);(have ⟨c0,c1,c2,c3,c4⟩:=C.b7))
  go_ret
  exact ⟨rfl,B⟩
 | true=>
 cases f with
 | false=>
  replace PL:=ws PL
  replace PF:=ws PF
  obtain rfl:ok=false:=h2 rfl
  clear h1 h2 h3
  go_enter Tryz.func38,Tryz.ntmps38
  go_wp2_with first | (go_at_call 60;(refine (PL.out _ hxc.out).mono ?_);rintro e w4 ⟨rfl,hb4⟩;(replace B:=B.trans (hb4.mono B.size));(replace C:=C.keep hb4);(have ⟨c0,c1,c2,c3,c4⟩:=C.b7)) | (go_at_call 61;(refine (PF.out _).mono ?_);rintro e w5 ⟨rfl,hb5⟩;(replace B:=B.trans (hb5.mono B.size));(replace C:=C.keep hb5);(have ⟨c0,c1,c2,c3,c4⟩:=C.b7))
  go_ret
  exact ⟨rfl,B⟩
 | true=>
 replace PL:=ws PL
 replace PF:=ws PF
 by_cases hpos:n > 0
 ·have hd:decide (n > 0)=true:=decide_eq_true hpos
  obtain rfl:ok=true:=(h3 rfl rfl).trans hd
  clear h1 h2 h3
  go_enter Tryz.func38,Tryz.ntmps38
  go_wp2_with first | (go_at_call 60;(refine (PL.out _ hxc.out).mono ?_);rintro e w4 ⟨rfl,hb4⟩;(replace B:=B.trans (hb4.mono B.size));(replace C:=C.keep hb4);(have ⟨c0,c1,c2,c3,c4⟩:=C.b7)) | (go_at_call 61;(refine (PF.out _).mono ?_);rintro e w5 ⟨rfl,hb5⟩;(replace B:=B.trans (hb5.mono B.size));(replace C:=C.keep hb5);(have ⟨c0,c1,c2,c3,c4⟩:=C.b7))
  go_ret
  exact ⟨by first | rfl | simp [hd],B⟩
 have hd:decide (n > 0)=false:=decide_eq_false hpos
 obtain rfl:ok=false:=(h3 rfl rfl).trans hd
 clear h1 h2 h3
 go_enter Tryz.func38,Tryz.ntmps38
 go_wp2_with first | (go_at_call 60;(refine (PL.out _ hxc.out).mono ?_);rintro e w4 ⟨rfl,hb4⟩;(replace B:=B.trans (hb4.mono B.size));(replace C:=C.keep hb4);(have ⟨c0,c1,c2,c3,c4⟩:=C.b7)) | (go_at_call 61;(refine (PF.out _).mono ?_);rintro e w5 ⟨rfl,hb5⟩;(replace B:=B.trans (hb5.mono B.size));(replace C:=C.keep hb5);(have ⟨c0,c1,c2,c3,c4⟩:=C.b7))
 go_ret
 exact ⟨by first | rfl | simp [hd],B⟩
namespace M
noncomputable def jq (a b:Int) (l:List Pt) (n d:Int):Bool:=fM a b l n d && (cM a b l).isSome
noncomputable def ckV (a b:Int) (l:List Pt) (n d:Int):Bool:=jq a b l n d && decide (slo (cM a b l)*d≥n*4096)
theorem uj {a b:Int} {l:List Pt} {n d:Int} (h:fM a b l n d=false):jq a b l n d=false∧ckV a b l n d=false:=by
 have h1:jq a b l n d=false:=by unfold jq;rw [h];rfl
 exact ⟨h1,by unfold ckV;rw [h1];rfl⟩
theorem rS {a b:Int} {l:List Pt} {n d:Int} (h:fM a b l n d=true):jq a b l n d=(cM a b l).isSome∧ckV a b l n d=((cM a b l).isSome && decide (slo (cM a b l)*d≥n*4096)):=by
 have h1:jq a b l n d=(cM a b l).isSome:=by unfold jq;rw [h];rfl
 exact ⟨h1,by unfold ckV;rw [h1]⟩
theorem ui {x n d:Int} (h1:-409600000≤x) (h2:x≤409600000) (hf:dy n d=true):-4000000000000000000≤x*d∧x*d≤4000000000000000000∧-4000000000000000000≤n*4096∧n*4096≤4000000000000000000∧-4000000000000000000≤pn x*d∧pn x*d≤4000000000000000000∧-4000000000000000000≤n*pd x∧n*pd x≤4000000000000000000∧decide (pn x*d<n*pd x)=!decide (x*d≥n*4096):=by
 obtain ⟨g1,g2,g3,g4,g5,g6,g7,g8,g9⟩:=ni (bJ h1 h2)
 have hb:=pH hf
 generalize pn x=p at *
 generalize pd x=q at *
 have m1:=aK (x:=x) (y:=d) (m:=409600000) (n:=1000000000) h1 h2 (by omega) (by omega)
 have m2:=aK (x:=p) (y:=d) (m:=1000000000) (n:=1000000000) g8 g9 (by omega) (by omega)
 have m3:=aK (x:=n) (y:=q) (m:=1000000000) (n:=4096) hb.1 hb.2.1 (by omega) (by omega)
 refine ⟨by omega,by omega,by omega,by omega,by omega,by omega,by omega,by omega,?_⟩
 rw [←decide_not]
 congr 1
 have h4:(4096:Int) / q*q=4096:=Int.ediv_mul_cancel (Int.dvd_of_emod_eq_zero g4)
 generalize (4096:Int) / q=k at *
 have e1:x*d=p*d*k:=by rw [←g5];grind
 have e2:n*4096=n*q*k:=by rw [←h4];grind
 rw [e1,e2]
 apply propext
 constructor
 ·intro h h'
  have:=Int.mul_lt_mul_of_pos_right h (show 0<k by omega)
  omega
 intro h
 rcases Int.lt_or_le (p*d) (n*q) with h5 | h5
 ·exact h5
 exact absurd (Int.mul_le_mul_of_nonneg_right h5 (show 0≤k by omega)) h
end M
theorem mL (a b c d:Int) (w:World) (h1:-4000000000000000000≤a*d) (h2:a*d≤4000000000000000000) (h3:-4000000000000000000≤c*b) (h4:c*b≤4000000000000000000) :
  Calls Tryz.prog 39 #[.agg #[.int .i64 a,.int .i64 b],.agg #[.int .i64 c,.int .i64 d]] w fun e w'=>e=.returned (.bool (decide (a*d<c*b)))∧Below w.heap.size w w':=by
 by_cases h:a*d<c*b
 ·have hd:decide (a*d<c*b)=true:=decide_eq_true h
  rw [hd]
  go_enter Tryz.func39,Tryz.ntmps39
  go_wp2
  go_ret
  exact ⟨by first | rfl | simp [hd],(by repeat (first | exact ww _ _ | refine aR ?_ _ | refine aS ?_ (by assumption) | refine Below.drew ?_ | refine wu ?_ (by first | exact xA _ | exact Nat.le_add_right _ _ | (simp <;> omega)) _ | refine aL ?_ _))⟩
 have hd:decide (a*d<c*b)=false:=decide_eq_false h
 rw [hd]
 go_enter Tryz.func39,Tryz.ntmps39
 go_wp2
 go_ret
 exact ⟨by first | rfl | simp [hd],(by repeat (first | exact ww _ _ | refine aR ?_ _ | refine aS ?_ (by assumption) | refine Below.drew ?_ | refine wu ?_ (by first | exact xA _ | exact Nat.le_add_right _ _ | (simp <;> omega)) _ | refine aL ?_ _))⟩
theorem eo (a b n d:Int) (v:Value) (l:List Pt) (w:World) (hx:eG w v l) (hn:l.length≤4000000) :
  Calls Tryz.prog 21 #[.agg #[.int .i64 a,.int .i64 b,v,.int .i64 n,.int .i64 d]] w fun e w'=>e=.returned (.tuple #[.bool (M.ckV a b l n d),.bool (M.jq a b l n d)])∧Below w.heap.size w w':=by
 obtain ⟨sa,cap,rfl⟩:=slV hx
 obtain ⟨wc,hw3,C,B⟩:=fZ w #[.int .i64 a,.int .i64 b,.slice sa l.length cap,.int .i64 n,.int .i64 d] 47
 have CI:=fun W (C:aH W w.heap.size 47 #[.int .i64 a,.int .i64 b,.slice sa l.length cap,.int .i64 n,.int .i64 d]) h=>iP a b n d (.slice sa l.length cap) l w.heap.size W C h hn
 have hxc:=ws (hx.below B)
 have ⟨c0,c1,c2,c3,c4⟩:=C.b7
 clear hx
 cases hc:M.fM a b l n d with
 | false=>
  obtain ⟨k1,k2⟩:=M.uj hc
  rw [hc] at CI
  rw [k1,k2]
  replace CI:=ws CI
  clear hc k1 k2
  go_enter Tryz.func21,Tryz.ntmps21
  go_wp2_with (go_at_call 41;(refine (CI.out _ C hxc.out).mono ?_);rintro e w4 ⟨rfl,hb4⟩;(have hz4:=hb4.size);(replace B:=B.trans (hb4.mono B.size));(replace C:=C.keep hb4);(have hxd:=ws (hxc.out.below hb4));(have ⟨c0,c1,c2,c3,c4⟩:=C.b7))
  go_ret2
  exact ⟨rfl,B⟩
 | true=>
 obtain ⟨k1,k2⟩:=M.rS hc
 rw [hc] at CI
 obtain ⟨hpl,hfr,hpos⟩:=M.ov hc
 obtain ⟨hg,h1,hn4,hpt⟩:=M.mb hpl
 have RG:=fun W h=>ml a b (.slice sa l.length cap) l W h hg h1 hn4 hpt
 have hbd:(M.cM a b l).isSome=true→-409600000≤M.slo (M.cM a b l)∧M.slo (M.cM a b l)≤409600000∧M.in1 (M.cM a b l)=M.pn (M.slo (M.cM a b l))∧M.in2 (M.cM a b l)=M.pd (M.slo (M.cM a b l)):=by
  have h3:=M.pT (a:=a) (b:=b) (l:=l)
  cases hq:M.cM a b l with
  | none=>intro h;cases h
  | some q=>
  intro _
  rw [hq] at h3
  obtain ⟨h4,h5,h6⟩:=M.fR h3
  exact ⟨h5,Int.le_trans h4 h6,rfl,rfl⟩
 rw [k1,k2]
 clear hg h1 hn4 hpt hpl hc k1 k2 hpos hn
 generalize M.cM a b l=rs at *
 generalize rs.isSome=fl at *
 generalize M.slo rs=lo at *
 generalize M.shi rs=hh at *
 generalize M.in1 rs=x1 at *
 generalize M.in2 rs=x2 at *
 generalize M.in3 rs=x3 at *
 generalize M.in4 rs=x4 at *
 replace CI:=ws CI
 replace RG:=ws RG
 cases fl with
 | false=>
  clear hbd hfr
  go_enter Tryz.func21,Tryz.ntmps21
  go_wp2_with first | (go_at_call 41;(refine (CI.out _ C hxc.out).mono ?_);rintro e w4 ⟨rfl,hb4⟩;(have hz4:=hb4.size);(replace B:=B.trans (hb4.mono B.size));(replace C:=C.keep hb4);(have hxd:=ws (hxc.out.below hb4));(have ⟨c0,c1,c2,c3,c4⟩:=C.b7)) | (go_at_call 35;(refine (RG.out _ hxd.out).mono ?_);rintro e w5 ⟨rfl,hb5⟩;(have Ba:=(ww w5.heap.size w5).alloc (xA _) (.cells #[.int .i64 lo,.int .i64 hh] 68));(have S:=aH.new w5 #[.int .i64 lo,.int .i64 hh] 68);(have ⟨s0,s1,_,_,_⟩:=S.box);(replace B:=(B.trans (hb5.mono B.size)).trans (Ba.mono (Nat.le_trans B.size hb5.size)));(replace C:=(C.keep hb5).keep Ba);(have ⟨c0,c1,c2,c3,c4⟩:=C.b7))
  go_ret2
  exact ⟨rfl,B⟩
 | true=>
 obtain ⟨b1,b2,rfl,rfl⟩:=hbd rfl
 obtain ⟨p1,p2,p3,p4,p5,p6,p7,p8,p9⟩:=M.ui b1 b2 hfr
 clear hbd hfr
 by_cases hge:lo*d≥n*4096
 ·have hd:decide (lo*d≥n*4096)=true:=decide_eq_true hge
  rw [hd]
  clear p5 p6 p7 p8 p9
  go_enter Tryz.func21,Tryz.ntmps21
  go_wp2_with first | (go_at_call 41;(refine (CI.out _ C hxc.out).mono ?_);rintro e w4 ⟨rfl,hb4⟩;(have hz4:=hb4.size);(replace B:=B.trans (hb4.mono B.size));(replace C:=C.keep hb4);(have hxd:=ws (hxc.out.below hb4));(have ⟨c0,c1,c2,c3,c4⟩:=C.b7)) | (go_at_call 35;(refine (RG.out _ hxd.out).mono ?_);rintro e w5 ⟨rfl,hb5⟩;(have Ba:=(ww w5.heap.size w5).alloc (xA _) (.cells #[.int .i64 lo,.int .i64 hh] 68));(have S:=aH.new w5 #[.int .i64 lo,.int .i64 hh] 68);(have ⟨s0,s1,_,_,_⟩:=S.box);(replace B:=(B.trans (hb5.mono B.size)).trans (Ba.mono (Nat.le_trans B.size hb5.size)));(replace C:=(C.keep hb5).keep Ba);(have ⟨c0,c1,c2,c3,c4⟩:=C.b7))
  go_ret2
  exact ⟨by first | rfl | simp [hd],B⟩
 have hd:decide (lo*d≥n*4096)=false:=decide_eq_false hge
 rw [hd]
 clear p5 p6 p7 p8 p9
 go_enter Tryz.func21,Tryz.ntmps21
 go_wp2_with first | (go_at_call 41;(refine (CI.out _ C hxc.out).mono ?_);rintro e w4 ⟨rfl,hb4⟩;(have hz4:=hb4.size);(replace B:=B.trans (hb4.mono B.size));(replace C:=C.keep hb4);(have hxd:=ws (hxc.out.below hb4));(have ⟨c0,c1,c2,c3,c4⟩:=C.b7)) | (go_at_call 35;(refine (RG.out _ hxd.out).mono ?_);rintro e w5 ⟨rfl,hb5⟩;(have Ba:=(ww w5.heap.size w5).alloc (xA _) (.cells #[.int .i64 lo,.int .i64 hh] 68));(have S:=aH.new w5 #[.int .i64 lo,.int .i64 hh] 68);(have ⟨s0,s1,_,_,_⟩:=S.box);(replace B:=(B.trans (hb5.mono B.size)).trans (Ba.mono (Nat.le_trans B.size hb5.size)));(replace C:=(C.keep hb5).keep Ba);(have ⟨c0,c1,c2,c3,c4⟩:=C.b7))
 go_ret2
 exact ⟨by first | rfl | simp [hd],B⟩
theorem es (a b n d:Int) (v:Value) (l:List Pt) (w:World) (hx:eG w v l) (hn:l.length≤4000000) :
  Calls Tryz.prog 19 #[.agg #[.int .i64 a,.int .i64 b,v,.int .i64 n,.int .i64 d]] w fun e w'=>e=.returned (.tuple #[.bool (M.ckV a b l n d),.bool (M.jq a b l n d)])∧Below w.heap.size w w':=by
 obtain ⟨sa,cap,rfl⟩:=slV hx
 obtain ⟨wc,hw3,C,B⟩:=fZ w #[.int .i64 a,.int .i64 b,.slice sa l.length cap,.int .i64 n,.int .i64 d] 47
 have CI:=fun W h=>sP a b n d (.slice sa l.length cap) l W h hn
 have hxc:=ws (hx.below B)
 have ⟨c0,c1,c2,c3,c4⟩:=C.b7
 clear hx
 cases hc:M.fM a b l n d with
 | false=>
  obtain ⟨k1,k2⟩:=M.uj hc
  rw [hc] at CI
  rw [k1,k2]
  replace CI:=ws CI
  clear hc k1 k2
  go_enter Tryz.func19,Tryz.ntmps19
  go_wp2_with (go_at_call 38;(refine (CI.out _ hxc.out).mono ?_);rintro e w4 ⟨rfl,hb4⟩;(have hz4:=hb4.size);(replace B:=B.trans (hb4.mono B.size));(replace C:=C.keep hb4);(have hxd:=ws (hxc.out.below hb4));(have ⟨c0,c1,c2,c3,c4⟩:=C.b7))
  go_ret2
  exact ⟨rfl,B⟩
 | true=>
 obtain ⟨k1,k2⟩:=M.rS hc
 rw [hc] at CI
 obtain ⟨hpl,hfr,hpos⟩:=M.ov hc
 obtain ⟨hg,h1,hn4,hpt⟩:=M.mb hpl
 have RG:=fun W h=>jw a b (.slice sa l.length cap) l W h hg h1 hn4 hpt
 have hbd:(M.cM a b l).isSome=true→-409600000≤M.slo (M.cM a b l)∧M.slo (M.cM a b l)≤409600000∧M.in1 (M.cM a b l)=M.pn (M.slo (M.cM a b l))∧M.in2 (M.cM a b l)=M.pd (M.slo (M.cM a b l)):=by
  have h3:=M.pT (a:=a) (b:=b) (l:=l)
  cases hq:M.cM a b l with
  | none=>intro h;cases h
  | some q=>
  intro _
  rw [hq] at h3
  obtain ⟨h4,h5,h6⟩:=M.fR h3
  exact ⟨h5,Int.le_trans h4 h6,rfl,rfl⟩
 rw [k1,k2]
 clear hg h1 hn4 hpt hpl hc k1 k2 hpos hn
 generalize M.cM a b l=rs at *
 generalize rs.isSome=fl at *
 generalize M.slo rs=lo at *
 generalize M.shi rs=hh at *
 generalize M.in1 rs=x1 at *
 generalize M.in2 rs=x2 at *
 generalize M.in3 rs=x3 at *
 generalize M.in4 rs=x4 at *
 replace CI:=ws CI
 replace RG:=ws RG
 cases fl with
 | false=>
  clear hbd hfr
  go_enter Tryz.func19,Tryz.ntmps19
  go_wp2_with first | (go_at_call 38;(refine (CI.out _ hxc.out).mono ?_);rintro e w4 ⟨rfl,hb4⟩;(have hz4:=hb4.size);(replace B:=B.trans (hb4.mono B.size));(replace C:=C.keep hb4);(have hxd:=ws (hxc.out.below hb4));(have ⟨c0,c1,c2,c3,c4⟩:=C.b7)) | (go_at_call 33;(refine (RG.out _ hxd.out).mono ?_);rintro e w5 ⟨rfl,hb5⟩;(have Ba:=(ww w5.heap.size w5).alloc (xA _) (.cells #[.int .i64 x1,.int .i64 x2,.int .i64 x3,.int .i64 x4] 64));(have S:=aH.new w5 #[.int .i64 x1,.int .i64 x2,.int .i64 x3,.int .i64 x4] 64);(have ⟨s0,s1,s2,s3,_,_,_,_,_⟩:=S.aM);(replace B:=(B.trans (hb5.mono B.size)).trans (Ba.mono (Nat.le_trans B.size hb5.size)));(replace C:=(C.keep hb5).keep Ba);(have ⟨c0,c1,c2,c3,c4⟩:=C.b7))
  go_ret2
  exact ⟨rfl,B⟩
 | true=>
 obtain ⟨b1,b2,rfl,rfl⟩:=hbd rfl
 obtain ⟨p1,p2,p3,p4,p5,p6,p7,p8,p9⟩:=M.ui b1 b2 hfr
 clear hbd hfr
 by_cases hge:lo*d≥n*4096
 ·have hd:decide (lo*d≥n*4096)=true:=decide_eq_true hge
  rw [hd]
  have LS:=fun W=>mL (M.pn lo) (M.pd lo) n d W p5 p6 p7 p8
  rw [p9,hd] at LS
  generalize M.pn lo=y1 at *
  generalize M.pd lo=y2 at *
  replace LS:=ws LS
  clear p1 p2 p3 p4 p5 p6 p7 p8 p9
  go_enter Tryz.func19,Tryz.ntmps19
  go_wp2_with first | (go_at_call 38;(refine (CI.out _ hxc.out).mono ?_);rintro e w4 ⟨rfl,hb4⟩;(have hz4:=hb4.size);(replace B:=B.trans (hb4.mono B.size));(replace C:=C.keep hb4);(have hxd:=ws (hxc.out.below hb4));(have ⟨c0,c1,c2,c3,c4⟩:=C.b7)) | (go_at_call 33;(refine (RG.out _ hxd.out).mono ?_);rintro e w5 ⟨rfl,hb5⟩;(have Ba:=(ww w5.heap.size w5).alloc (xA _) (.cells #[.int .i64 y1,.int .i64 y2,.int .i64 x3,.int .i64 x4] 64));(have S:=aH.new w5 #[.int .i64 y1,.int .i64 y2,.int .i64 x3,.int .i64 x4] 64);(have ⟨s0,s1,s2,s3,_,_,_,_,_⟩:=S.aM);(replace B:=(B.trans (hb5.mono B.size)).trans (Ba.mono (Nat.le_trans B.size hb5.size)));(replace C:=(C.keep hb5).keep Ba);(have ⟨c0,c1,c2,c3,c4⟩:=C.b7)) | (go_at_call 39;(refine (LS.out _).mono ?_);rintro e w6 ⟨rfl,hb6⟩;(replace B:=B.trans (hb6.mono B.size)))
  go_ret2
  exact ⟨by first | rfl | simp [hd],B⟩
 have hd:decide (lo*d≥n*4096)=false:=decide_eq_false hge
 rw [hd]
 have LS:=fun W=>mL (M.pn lo) (M.pd lo) n d W p5 p6 p7 p8
 rw [p9,hd] at LS
 generalize M.pn lo=y1 at *
 generalize M.pd lo=y2 at *
 replace LS:=ws LS
 clear p1 p2 p3 p4 p5 p6 p7 p8 p9
 go_enter Tryz.func19,Tryz.ntmps19
 go_wp2_with first | (go_at_call 38;(refine (CI.out _ hxc.out).mono ?_);rintro e w4 ⟨rfl,hb4⟩;(have hz4:=hb4.size);(replace B:=B.trans (hb4.mono B.size));(replace C:=C.keep hb4);(have hxd:=ws (hxc.out.below hb4));(have ⟨c0,c1,c2,c3,c4⟩:=C.b7)) | (go_at_call 33;(refine (RG.out _ hxd.out).mono ?_);rintro e w5 ⟨rfl,hb5⟩;(have Ba:=(ww w5.heap.size w5).alloc (xA _) (.cells #[.int .i64 y1,.int .i64 y2,.int .i64 x3,.int .i64 x4] 64));(have S:=aH.new w5 #[.int .i64 y1,.int .i64 y2,.int .i64 x3,.int .i64 x4] 64);(have ⟨s0,s1,s2,s3,_,_,_,_,_⟩:=S.aM);(replace B:=(B.trans (hb5.mono B.size)).trans (Ba.mono (Nat.le_trans B.size hb5.size)));(replace C:=(C.keep hb5).keep Ba);(have ⟨c0,c1,c2,c3,c4⟩:=C.b7)) | (go_at_call 39;(refine (LS.out _).mono ?_);rintro e w6 ⟨rfl,hb6⟩;(replace B:=B.trans (hb6.mono B.size)))
 go_ret2
 exact ⟨by first | rfl | simp [hd],B⟩
end
section
open Go.ChangeShapes Go.WideShapes Go.ChangeAt Go.RowKit Go.Joins Go.Deep
theorem own:ownKnob Tryz.prog.godebug=none:=by kernel_rfl
theorem laidOut:laidOutB Tryz.prog=true:=by kernel_rfl
theorem M.kE {a:Int} (h:(Lit.int .i64 a).wf=true):M.I64 a:=by
 have:=bounds_i64 h
 exact this
section
variable {H:Type} {enc:TypeId × Value→H} {P:Program} {w:World} {base:Nat} {spare:Nat→Bool} {held:Bool}
theorem f5 (hl:laidOutB P=true):∀ (ts:List TypeId) (hts:∀ t ∈ ts,P.readableRec t=true∧t<P.types.size) {W W':World} {vs:List Value} {ds:List (DataW H)} {ps:List MemPlace}
  (_:DataW.TrodAll enc P W 0 (fun _=>true) true ts vs ds ps) (_:Below W.heap.size W W') (_:∀ x ∈ ps,x.block<W.heap.size),DataW.TrodAll enc P W' 0 (fun b=>decide (b<W.heap.size)) true ts vs ds ps
 | [],_,_,_,_,_,_,h,_,_=>by
  obtain ⟨rfl,rfl,rfl⟩:=trodAll_nil h
  exact trodAll_mk0
 | t :: ts,hts,_,_,_,_,_,h,hb,hlt=>by
  obtain ⟨v,vs',d,ds',p,q,rfl,rfl,rfl,h1,h2⟩:=trodAll_cons h
  refine ⟨p,q,Below.trod hl (hts t List.mem_cons_self).1 (hts t List.mem_cons_self).2 h1 hb fun x hx=>hlt x (List.mem_append_left _ hx),?_,rfl⟩
  exact f5 hl ts (fun t' ht'=>hts t' (List.mem_cons_of_mem _ ht')) h2 hb fun x hx=>hlt x (List.mem_append_right _ hx)
theorem law_post {f:Func} {s:ChangeSpec} {W W':World} {args:Array Value} {ds:List (DataW H)} {before:List MemPlace} {tb:TypeId}
  (hl:laidOutB P=true) (hts:∀ t ∈ f.params.toList,P.readableRec t=true∧t<P.types.size)
  (hvars:s.vars=[]) (hf:s.fn H ds={ results:=[.lit (.bool true)],args:=ds }) (hrt:f.resultTypes=#[tb]) (hbool:P.underlying tb=some .bool)
  (hW:DataW.Whole enc P f.params.toList s.vars false W args.toList ds [] before) (hb:Below W.heap.size W W') :
  s.post enc P f false true false false W args (.bool true) W':=by
 have hlt:∀ p ∈ before,p.block<W.heap.size:=fun p hp=>hW.lt p hp
 obtain ⟨p,q,hA,hV,hpq,hz,hn⟩:=id hW
 rw [hvars] at hV
 obtain ⟨_,rfl⟩:=trodVars_none hV
 have hbp:before=p:=by simpa using hpq
 subst hbp
 have e1:s.fn H (ds ++ [])={ results:=[.lit (.bool true)],args:=ds }:=by rw [List.append_nil];exact hf
 refine ⟨ds,[],before,[],before,[],hW,?_,?_,?_,World.keptBut_mono (fun x hx=>⟨hx,Or.inr (Or.inl hx)⟩) (hb.frame (· ∈ before)),fun h=>by cases h⟩
 ·rw [e1,hrt]
  exact trodAll_mk1 (shut_bool hbool true)
 ·rw [e1]
  exact f5 hl _ hts hA hb hlt
 rw [e1,hvars]
 exact rfl
end
def nV (w:World) (v:Value) (xs:List Int):Prop:=
 ∃ (A:Option Addr) (cap:Nat),v=.slice A xs.length cap∧(xs.length:Int)≤9223372036854775807∧
  ∀ k,k<xs.length→∃ g o x,A=some ⟨g,o,none⟩∧g<w.heap.size∧Hid (xs[k]?=some x)∧w.cell? ⟨g,o+k,none⟩=some (.int .i64 x)
theorem nV.keep {w w':World} {v:Value} {xs:List Int} (h:nV w v xs) (hb:Below w.heap.size w w'):nV w' v xs:=by
 obtain ⟨A,cap,rfl,hm,hv⟩:=h
 refine ⟨A,cap,rfl,hm,fun k hk=>?_⟩
 obtain ⟨g,o,x,hA,hg,hx,h0⟩:=hv k hk
 exact ⟨g,o,x,hA,Nat.lt_of_lt_of_le hg hb.size,hx,aE hb h0⟩
end
end Go.Proofs.YtgfkcoablfjbcaaGreat
