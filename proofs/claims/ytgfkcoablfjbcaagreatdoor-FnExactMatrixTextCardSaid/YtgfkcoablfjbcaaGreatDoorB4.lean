/-
  Joined texts: contracts and plain lemmas.
-/
import Derived.Test.YtgfkcoablfjbcaaGreatDoorB1
import Derived.Test.YtgfkcoablfjbcaaGreatDoorB3
set_option linter.unusedSimpArgs false
set_option linter.unusedVariables false
set_option maxRecDepth 100000
set_option maxHeartbeats 8000000
namespace Go.Proofs.YtgfkcoablfjbcaaGreatDoor
section
open Go.RowKit
theorem eh (z y:Int) (n:Nat) (neg:Bool) (v:Value) (w:World) (base:Nat) (ho:iS w base v y n) (hn:n≤1000000) (hz:Wh.sgn neg y=z) :
  Calls Tryz.prog 95 #[.bool neg,v] w fun e w'=>∃ sl,e=.returned (.agg #[.bool (decide (z<0)),sl])∧ae w' w.heap.size sl z∧Below w.heap.size w w':=by
 obtain ⟨o,h1,h2,h3,h4⟩:=ho
 exact ei z neg o v w base h1 h2 (by omega) (by rw [h3];exact hz)
theorem aW {W:World} {p:Addr} {v:Value} (h:W.cell? p=some v):(W.drew).cell? p=some v:=h
theorem af.store {w:World} {b:Nat} {u v:Value} (h:af w b u v) (x y:Value):af ((w.setCell ⟨b,0,none⟩ x).setCell ⟨b,1,none⟩ y) b x y:=by
 obtain ⟨h1,h2,h3,h4,h5⟩:=h
 exact ⟨by simp [go_sem, *],by simp [go_sem, *],by simp [go_sem, *],by simp [go_sem, *],by simp [go_sem, *]⟩
theorem af.other {w:World} {b c:Nat} {u v:Value} (h:af w b u v) (hn:b≠c) (x y:Value):af ((w.setCell ⟨c,0,none⟩ x).setCell ⟨c,1,none⟩ y) b u v:=
 have hg:=cP w c x y
 have hn':some b≠some c:=by simpa using hn
 ⟨hg.cell h.c0 hn',hg.cell h.c1 hn',(Gr.frozen hg h.size hn').trans h.f0,(Gr.frozen hg h.size hn').trans h.f1,Gr.jI hg h.size⟩
theorem af.drew {w:World} {b:Nat} {u v:Value} (h:af w b u v):af w.drew b u v:=⟨h.c0,h.c1,h.f0,h.f1,h.size⟩
namespace Wh
theorem add_same {a b:Int} {s:Bool} (ha:decide (a<0)=s) (hb:decide (b<0)=s):sgn s ((a.natAbs:Int)+1*(b.natAbs:Int))=a+b:=by
 cases s
 ·simp only [decide_eq_false_iff_not] at ha hb;simp only [sgn,Bool.false_eq_true,if_false];omega
 simp only [decide_eq_true_eq] at ha hb;simp only [sgn,if_true];omega
theorem dU {a b:Int} {s:Bool} (ha:decide (a<0)=s) (hb:decide (b<0)=!s):sgn s ((a.natAbs:Int)+-1*(b.natAbs:Int))=a+b:=by
 cases s
 ·simp only [decide_eq_false_iff_not,Bool.not_false,decide_eq_true_eq] at ha hb;simp only [sgn,Bool.false_eq_true,if_false];omega
 simp only [decide_eq_true_eq,Bool.not_true,decide_eq_false_iff_not] at ha hb;simp only [sgn,if_true];omega
end Wh
theorem et (a b:Int) (va vb:Value) (w:World) (ba bb:Nat) (hoa:ae w ba va a) (hob:ae w bb vb b) (hl1:(Wh.dig a.natAbs).length≤10000) (hl2:(Wh.dig b.natAbs).length≤10000) :
  Calls Tryz.prog 78 #[.agg #[.bool (decide (a<0)),va],.agg #[.bool (decide (b<0)),vb]] w fun e w'=>∃ sl,e=.returned (.agg #[.bool (decide (a+b<0)),sl])∧ae w' w.heap.size sl (a+b)∧Below w.heap.size w w':=by
 obtain ⟨aa,capa,rfl,-,-⟩:=aF.view hoa
 obtain ⟨ab,capb,rfl,-,-⟩:=aF.view hob
 have PA:=fun s hs h0 W h1 h2=>iU (Wh.dig a.natAbs) (Wh.dig b.natAbs) s (.slice aa (Wh.dig a.natAbs).length capa) (.slice ab (Wh.dig b.natAbs).length capb) W ba bb hs h1 h2 (Wh.ai _) (Wh.ai _) h0 (by omega) (by omega)
 rw [Wh.bI,Wh.bI] at PA
 have PT:=fun s y (h:Wh.sgn s y=a+b) W v base ho=>eh (a+b) y ((Wh.dig a.natAbs).length+(Wh.dig b.natAbs).length+1) s v W base ho (by omega) h
 have hOA:Hid (∀ W,Below w.heap.size w W→aF W ba (.slice aa (Wh.dig a.natAbs).length capa) (Wh.dig a.natAbs)):=uh fun W h=>aF.below hoa h
 have hOB:Hid (∀ W,Below w.heap.size w W→aF W bb (.slice ab (Wh.dig b.natAbs).length capb) (Wh.dig b.natAbs)):=uh fun W h=>aF.below hob h
 obtain ⟨s1,hs1⟩:∃ s,decide (a<0)=s:=⟨_,rfl⟩
 obtain ⟨s2,hs2⟩:∃ s,decide (b<0)=s:=⟨_,rfl⟩
 clear hoa hob
 by_cases hss:s1=s2
 ·subst hss
  have PT:=uh (PT s1 _ (Wh.add_same hs1 hs2))
  have PA:=uh (PA 1 (Or.inl rfl) (by omega))
  rw [hs1,hs2]
  clear hs1 hs2
  generalize (a.natAbs:Int)+1*(b.natAbs:Int)=y at *
  generalize a+b=z at *
  generalize Wh.dig a.natAbs=xs at *
  generalize Wh.dig b.natAbs=ys at *
  generalize xs.length=l1 at *
  generalize ys.length=l2 at *
  generalize decide (z<0)=s at *
  have b1:=((af.new w (.bool s1) (.slice aa l1 capa) 106).alloc (.cells #[.bool s1,.slice ab l2 capb] 106)).alloc (.cells #[.bool false,.slice none 0 0] 106)
  have b2:=(af.new2 w (.cells #[.bool s1,.slice aa l1 capa] 106) (.bool s1) (.slice ab l2 capb) 106).alloc (.cells #[.bool false,.slice none 0 0] 106)
  have b3:=af.new2 (w.alloc (.cells #[.bool s1,.slice aa l1 capa] 106)) (.cells #[.bool s1,.slice ab l2 capb] 106) (.bool false) (.slice none 0 0) 106
  rw [ui] at b3
  have hB:=(((uk w.heap.size w).alloc (ul _) (.cells #[.bool s1,.slice aa l1 capa] 106)).alloc (by rw [ui];omega) (.cells #[.bool s1,.slice ab l2 capb] 106)).alloc (by rw [ui,ui];omega) (.cells #[.bool false,.slice none 0 0] 106)
  generalize hw3:((w.alloc (.cells #[.bool s1,.slice aa l1 capa] 106)).alloc (.cells #[.bool s1,.slice ab l2 capb] 106)).alloc (.cells #[.bool false,.slice none 0 0] 106)=w3 at *
  have e1:=b1.c0
  have e2:=b1.c1
  have e3:=b2.c0
  have e4:=b2.c1
  go_enter Tryz.func78,Tryz.ntmps78
  go_wp2
  go_region_held3 (fun W=>W.cell? ⟨w.heap.size,0,none⟩=some (.bool s1)∧W.cell? ⟨w.heap.size,1,none⟩=some (.slice aa l1 capa)∧W.cell? ⟨w.heap.size+1,0,none⟩=some (.bool s1)∧W.cell? ⟨w.heap.size+1,1,none⟩=some (.slice ab l2 capb)) (first | (refine ⟨?_,?_,?_,?_⟩ <;> (first | (with_reducible exact aE (by assumption) (by assumption)) | (with_reducible exact Gr.aw (by assumption)) | (with_reducible refine Gr.bM (by assumption) ?_;(intro hh_;(try simp only [ui,aM,World.heap_drewN,aI] at hh_);omega)) | (with_reducible refine Gr.co (by assumption) ?_ ?_ <;> (intro hh_;(try simp only [ui,aM,World.heap_drewN,aI] at hh_);omega)) | exact aE (by assumption) (by assumption) | (with_reducible exact ar (by assumption) (by assumption) (by assumption)))) | (go_split_ands;(refine ⟨?_,?_,?_,?_⟩ <;> (first | (with_reducible exact aE (by assumption) (by assumption)) | (with_reducible exact Gr.aw (by assumption)) | (with_reducible refine Gr.bM (by assumption) ?_;(intro hh_;(try simp only [ui,aM,World.heap_drewN,aI] at hh_);omega)) | (with_reducible refine Gr.co (by assumption) ?_ ?_ <;> (intro hh_;(try simp only [ui,aM,World.heap_drewN,aI] at hh_);omega)) | exact aE (by assumption) (by assumption) | (with_reducible exact ar (by assumption) (by assumption) (by assumption))))) | go_keep) ((first
   | (go_at_call 96;(with_reducible refine (PA.out _ (hOA.out _ hB.drew) (hOB.out _ hB.drew)).mono ?_);rintro e w4 ⟨v4,rfl,ho4,hb4⟩;(have B4:=hB.drew.trans (hb4.mono hB.size));(have r4:=b3.drew.keep hb4);(have x1_:=aE hb4 (aW e1));(have x2_:=aE hb4 (aW e2));(have x3_:=aE hb4 (aW e3));(have x4_:=aE hb4 (aW e4));(have z4:w3.heap.size≤w4.heap.size:=hb4.size))
   | (go_at_call 95;(with_reducible refine (PT.out _ _ _ ho4).mono ?_);rintro e w5 ⟨vc,rfl,hoc,hbc⟩;obtain ⟨ac,capc,rfl,hmc,hvc⟩:=aF.view hoc;(have B5:=B4.trans (hbc.mono B4.size));(have r5:=r4.keep hbc);(have c0:=r5.c0);(have c1:=r5.c1);(have g0:=r5.f0);(have g1:=r5.f1);(have y1_:=aE hbc x1_);(have y2_:=aE hbc x2_);(have y3_:=aE hbc x3_);(have y4_:=aE hbc x4_);(clear hvc hmc))
   | fail "ARMS"))
  all_goals
   have hr:=cH (w:=w) (w.heap.size+1+1) _ (.bool s) (by omega) (Nat.lt_of_lt_of_le b3.size z4) hoc B5
   generalize (Wh.dig z.natAbs).length=n2 at *
   go_wp2
   exact bodyPost_ret (v:=.agg #[.bool s,.slice ac n2 capc]) (by simp [results,Tryz.results78,go_sem, *]) rfl (⟨_,rfl,hr.1,hr.2⟩)
 have PA':=fun s hs h0 W h1 h2=>iU (Wh.dig b.natAbs) (Wh.dig a.natAbs) s (.slice ab (Wh.dig b.natAbs).length capb) (.slice aa (Wh.dig a.natAbs).length capa) W bb ba hs h1 h2 (Wh.ai _) (Wh.ai _) h0 (by omega) (by omega)
 rw [Wh.bI,Wh.bI] at PA'
 have PT':=fun s y (h:Wh.sgn s y=a+b) W v base ho=>eh (a+b) y ((Wh.dig b.natAbs).length+(Wh.dig a.natAbs).length+1) s v W base ho (by omega) h
 have hx:(s1=false∧s2=true)∨(s1=true∧s2=false):=by cases s1 <;> cases s2 <;> simp_all
 clear hss
 rcases hx with ⟨rfl,rfl⟩ | ⟨rfl,rfl⟩
 ·skip
  have hd:=Wh.dU (a:=a) (b:=b) hs1 hs2
  have hd':=Wh.dU (a:=b) (b:=a) hs2 hs1
  rw [Int.add_comm b a] at hd'
  have PM:=fun W h1 h2=>dH a.natAbs b.natAbs false true (.slice aa (Wh.dig a.natAbs).length capa) (.slice ab (Wh.dig b.natAbs).length capb) W ba bb h1 h2 (by omega) (by omega)
  rw [hs1,hs2]
  clear hs1 hs2
  by_cases hlt:a.natAbs<b.natAbs
  ·skip
   have PT:=uh (PT' true _ hd')
   have PA:=uh (PA' (-1) (Or.inr rfl) (by omega))
   rw [Wh.fG (by omega)] at PM
   have PM:=uh PM
   clear hlt hd hd'
   generalize (b.natAbs:Int)+-1*(a.natAbs:Int)=y at *
   generalize a+b=z at *
   generalize Wh.dig a.natAbs=xs at *
   generalize Wh.dig b.natAbs=ys at *
   generalize xs.length=l1 at *
   generalize ys.length=l2 at *
   generalize decide (z<0)=s at *
   have b1:=((af.new w (.bool false) (.slice aa l1 capa) 106).alloc (.cells #[.bool true,.slice ab l2 capb] 106)).alloc (.cells #[.bool false,.slice none 0 0] 106)
   have b2:=(af.new2 w (.cells #[.bool false,.slice aa l1 capa] 106) (.bool true) (.slice ab l2 capb) 106).alloc (.cells #[.bool false,.slice none 0 0] 106)
   have b3:=af.new2 (w.alloc (.cells #[.bool false,.slice aa l1 capa] 106)) (.cells #[.bool true,.slice ab l2 capb] 106) (.bool false) (.slice none 0 0) 106
   rw [ui] at b3
   have hB:=(((uk w.heap.size w).alloc (ul _) (.cells #[.bool false,.slice aa l1 capa] 106)).alloc (by rw [ui];omega) (.cells #[.bool true,.slice ab l2 capb] 106)).alloc (by rw [ui,ui];omega) (.cells #[.bool false,.slice none 0 0] 106)
   generalize hw3:((w.alloc (.cells #[.bool false,.slice aa l1 capa] 106)).alloc (.cells #[.bool true,.slice ab l2 capb] 106)).alloc (.cells #[.bool false,.slice none 0 0] 106)=w3 at *
   have i1:=b1.c0
   have i2:=b1.c1
   have i3:=b2.c0
   have i4:=b2.c1
   go_enter Tryz.func78,Tryz.ntmps78
   go_wp2_with (go_at_call 97;(with_reducible refine (PM.out _ (hOA.out _ hB) (hOB.out _ hB)).mono ?_);rintro e wm ⟨rfl,hbm⟩;(have m1:=b1.keep hbm);(have m2:=b2.keep hbm);(have m3:=b3.keep hbm);(have j1:=m1.c0);(have j2:=m1.c1);(have j3:=m2.c0);(have j4:=m2.c1);(have k1:=m1.f0);(have k2:=m1.f1);(have k3:=m2.f0);(have k4:=m2.f1);(have Bm:=hB.trans (hbm.mono hB.size)))
   have n1:=(m1.store (.bool true) (.slice ab l2 capb)).other (c:=w.heap.size+1) (by omega) (.bool false) (.slice aa l1 capa)
   have n2:=(m2.other (c:=w.heap.size) (by omega) (.bool true) (.slice ab l2 capb)).store (.bool false) (.slice aa l1 capa)
   have n3:=(m3.other (c:=w.heap.size) (by omega) (.bool true) (.slice ab l2 capb)).other (c:=w.heap.size+1) (by omega) (.bool false) (.slice aa l1 capa)
   have Bn:=(((Bm.setCell (p:=⟨w.heap.size,0,none⟩) (ul _) (.bool true)).setCell (p:=⟨w.heap.size,1,none⟩) (ul _) (.slice ab l2 capb)).setCell (p:=⟨w.heap.size+1,0,none⟩) (Nat.le_succ _) (.bool false)).setCell (p:=⟨w.heap.size+1,1,none⟩) (Nat.le_succ _) (.slice aa l1 capa)
   generalize hwn:((((wm.setCell ⟨w.heap.size,0,none⟩ (.bool true)).setCell ⟨w.heap.size,1,none⟩ (.slice ab l2 capb)).setCell ⟨w.heap.size+1,0,none⟩ (.bool false)).setCell ⟨w.heap.size+1,1,none⟩ (.slice aa l1 capa))=wn at *
   clear i1 i2 i3 i4 j1 j2 j3 j4 k1 k2 k3 k4 m1 m2 m3 b1 b2 b3 hbm
   have e1:=n1.c0
   have e2:=n1.c1
   have e3:=n2.c0
   have e4:=n2.c1
   go_region_held3 (fun W=>W.cell? ⟨w.heap.size,0,none⟩=some (.bool true)∧W.cell? ⟨w.heap.size,1,none⟩=some (.slice ab l2 capb)∧W.cell? ⟨w.heap.size+1,0,none⟩=some (.bool false)∧W.cell? ⟨w.heap.size+1,1,none⟩=some (.slice aa l1 capa)) (first | (refine ⟨?_,?_,?_,?_⟩ <;> (first | (with_reducible exact aE (by assumption) (by assumption)) | (with_reducible exact Gr.aw (by assumption)) | (with_reducible refine Gr.bM (by assumption) ?_;(intro hh_;(try simp only [ui,aM,World.heap_drewN,aI] at hh_);omega)) | (with_reducible refine Gr.co (by assumption) ?_ ?_ <;> (intro hh_;(try simp only [ui,aM,World.heap_drewN,aI] at hh_);omega)) | exact aE (by assumption) (by assumption) | (with_reducible exact ar (by assumption) (by assumption) (by assumption)))) | (go_split_ands;(refine ⟨?_,?_,?_,?_⟩ <;> (first | (with_reducible exact aE (by assumption) (by assumption)) | (with_reducible exact Gr.aw (by assumption)) | (with_reducible refine Gr.bM (by assumption) ?_;(intro hh_;(try simp only [ui,aM,World.heap_drewN,aI] at hh_);omega)) | (with_reducible refine Gr.co (by assumption) ?_ ?_ <;> (intro hh_;(try simp only [ui,aM,World.heap_drewN,aI] at hh_);omega)) | exact aE (by assumption) (by assumption) | (with_reducible exact ar (by assumption) (by assumption) (by assumption))))) | go_keep) ((first
    | (go_at_call 96;(with_reducible refine (PA.out _ (hOB.out _ Bn.drew) (hOA.out _ Bn.drew)).mono ?_);rintro e w4 ⟨v4,rfl,ho4,hb4⟩;(have B4:=Bn.drew.trans (hb4.mono Bn.size));(have r4:=n3.drew.keep hb4);(have x1_:=aE hb4 (aW e1));(have x2_:=aE hb4 (aW e2));(have x3_:=aE hb4 (aW e3));(have x4_:=aE hb4 (aW e4));(have z4:wn.heap.size≤w4.heap.size:=hb4.size))
    | (go_at_call 95;(with_reducible refine (PT.out _ _ _ ho4).mono ?_);rintro e w5 ⟨vc,rfl,hoc,hbc⟩;obtain ⟨ac,capc,rfl,hmc,hvc⟩:=aF.view hoc;(have B5:=B4.trans (hbc.mono B4.size));(have r5:=r4.keep hbc);(have c0:=r5.c0);(have c1:=r5.c1);(have g0:=r5.f0);(have g1:=r5.f1);(have y1_:=aE hbc x1_);(have y2_:=aE hbc x2_);(have y3_:=aE hbc x3_);(have y4_:=aE hbc x4_);(clear hvc hmc))
    | fail "ARMS"))
   all_goals
    have hr:=cH (w:=w) (w.heap.size+1+1) _ (.bool s) (by omega) (Nat.lt_of_lt_of_le n3.size z4) hoc B5
    generalize (Wh.dig z.natAbs).length=n2_ at *
    go_wp2
    exact bodyPost_ret (v:=.agg #[.bool s,.slice ac n2_ capc]) (by simp [results,Tryz.results78,go_sem, *]) rfl (⟨_,rfl,hr.1,hr.2⟩)
  skip
  have PT:=uh (PT false _ hd)
  have PA:=uh (PA (-1) (Or.inr rfl) (by omega))
  have hr0:¬ Wh.sg3 (a.natAbs:Int) (b.natAbs:Int)<0:=by unfold Wh.sg3;rw [if_neg (by omega)];split <;> omega
  generalize Wh.sg3 (a.natAbs:Int) (b.natAbs:Int)=rr at *
  have PM:=uh PM
  clear hlt hd hd'
  generalize (a.natAbs:Int)+-1*(b.natAbs:Int)=y at *
  generalize a+b=z at *
  generalize Wh.dig a.natAbs=xs at *
  generalize Wh.dig b.natAbs=ys at *
  generalize xs.length=l1 at *
  generalize ys.length=l2 at *
  generalize decide (z<0)=s at *
  have b1:=((af.new w (.bool false) (.slice aa l1 capa) 106).alloc (.cells #[.bool true,.slice ab l2 capb] 106)).alloc (.cells #[.bool false,.slice none 0 0] 106)
  have b2:=(af.new2 w (.cells #[.bool false,.slice aa l1 capa] 106) (.bool true) (.slice ab l2 capb) 106).alloc (.cells #[.bool false,.slice none 0 0] 106)
  have b3:=af.new2 (w.alloc (.cells #[.bool false,.slice aa l1 capa] 106)) (.cells #[.bool true,.slice ab l2 capb] 106) (.bool false) (.slice none 0 0) 106
  rw [ui] at b3
  have hB:=(((uk w.heap.size w).alloc (ul _) (.cells #[.bool false,.slice aa l1 capa] 106)).alloc (by rw [ui];omega) (.cells #[.bool true,.slice ab l2 capb] 106)).alloc (by rw [ui,ui];omega) (.cells #[.bool false,.slice none 0 0] 106)
  generalize hw3:((w.alloc (.cells #[.bool false,.slice aa l1 capa] 106)).alloc (.cells #[.bool true,.slice ab l2 capb] 106)).alloc (.cells #[.bool false,.slice none 0 0] 106)=w3 at *
  have i1:=b1.c0
  have i2:=b1.c1
  have i3:=b2.c0
  have i4:=b2.c1
  go_enter Tryz.func78,Tryz.ntmps78
  go_wp2_with (go_at_call 97;(with_reducible refine (PM.out _ (hOA.out _ hB) (hOB.out _ hB)).mono ?_);rintro e wm ⟨rfl,hbm⟩;(have m1:=b1.keep hbm);(have m2:=b2.keep hbm);(have m3:=b3.keep hbm);(have j1:=m1.c0);(have j2:=m1.c1);(have j3:=m2.c0);(have j4:=m2.c1);(have k1:=m1.f0);(have k2:=m1.f1);(have k3:=m2.f0);(have k4:=m2.f1);(have Bm:=hB.trans (hbm.mono hB.size)))
  have n1:=m1
  have n2:=m2
  have n3:=m3
  have Bn:=Bm
  clear i1 i2 i3 i4 j1 j2 j3 j4 k1 k2 k3 k4 m1 m2 m3 b1 b2 b3 hbm
  have e1:=n1.c0
  have e2:=n1.c1
  have e3:=n2.c0
  have e4:=n2.c1
  go_region_held3 (fun W=>W.cell? ⟨w.heap.size,0,none⟩=some (.bool false)∧W.cell? ⟨w.heap.size,1,none⟩=some (.slice aa l1 capa)∧W.cell? ⟨w.heap.size+1,0,none⟩=some (.bool true)∧W.cell? ⟨w.heap.size+1,1,none⟩=some (.slice ab l2 capb)) (first | (refine ⟨?_,?_,?_,?_⟩ <;> (first | (with_reducible exact aE (by assumption) (by assumption)) | (with_reducible exact Gr.aw (by assumption)) | (with_reducible refine Gr.bM (by assumption) ?_;(intro hh_;(try simp only [ui,aM,World.heap_drewN,aI] at hh_);omega)) | (with_reducible refine Gr.co (by assumption) ?_ ?_ <;> (intro hh_;(try simp only [ui,aM,World.heap_drewN,aI] at hh_);omega)) | exact aE (by assumption) (by assumption) | (with_reducible exact ar (by assumption) (by assumption) (by assumption)))) | (go_split_ands;(refine ⟨?_,?_,?_,?_⟩ <;> (first | (with_reducible exact aE (by assumption) (by assumption)) | (with_reducible exact Gr.aw (by assumption)) | (with_reducible refine Gr.bM (by assumption) ?_;(intro hh_;(try simp only [ui,aM,World.heap_drewN,aI] at hh_);omega)) | (with_reducible refine Gr.co (by assumption) ?_ ?_ <;> (intro hh_;(try simp only [ui,aM,World.heap_drewN,aI] at hh_);omega)) | exact aE (by assumption) (by assumption) | (with_reducible exact ar (by assumption) (by assumption) (by assumption))))) | go_keep) ((first
   | (go_at_call 96;(with_reducible refine (PA.out _ (hOA.out _ Bn.drew) (hOB.out _ Bn.drew)).mono ?_);rintro e w4 ⟨v4,rfl,ho4,hb4⟩;(have B4:=Bn.drew.trans (hb4.mono Bn.size));(have r4:=n3.drew.keep hb4);(have x1_:=aE hb4 (aW e1));(have x2_:=aE hb4 (aW e2));(have x3_:=aE hb4 (aW e3));(have x4_:=aE hb4 (aW e4));(have z4:wm.heap.size≤w4.heap.size:=hb4.size))
   | (go_at_call 95;(with_reducible refine (PT.out _ _ _ ho4).mono ?_);rintro e w5 ⟨vc,rfl,hoc,hbc⟩;obtain ⟨ac,capc,rfl,hmc,hvc⟩:=aF.view hoc;(have B5:=B4.trans (hbc.mono B4.size));(have r5:=r4.keep hbc);(have c0:=r5.c0);(have c1:=r5.c1);(have g0:=r5.f0);(have g1:=r5.f1);(have y1_:=aE hbc x1_);(have y2_:=aE hbc x2_);(have y3_:=aE hbc x3_);(have y4_:=aE hbc x4_);(clear hvc hmc))
   | fail "ARMS"))
  all_goals
   have hr:=cH (w:=w) (w.heap.size+1+1) _ (.bool s) (by omega) (Nat.lt_of_lt_of_le n3.size z4) hoc B5
   generalize (Wh.dig z.natAbs).length=n2_ at *
   go_wp2
   exact bodyPost_ret (v:=.agg #[.bool s,.slice ac n2_ capc]) (by simp [results,Tryz.results78,go_sem, *]) rfl (⟨_,rfl,hr.1,hr.2⟩)
 skip
 have hd:=Wh.dU (a:=a) (b:=b) hs1 hs2
 have hd':=Wh.dU (a:=b) (b:=a) hs2 hs1
 rw [Int.add_comm b a] at hd'
 have PM:=fun W h1 h2=>dH a.natAbs b.natAbs true false (.slice aa (Wh.dig a.natAbs).length capa) (.slice ab (Wh.dig b.natAbs).length capb) W ba bb h1 h2 (by omega) (by omega)
 rw [hs1,hs2]
 clear hs1 hs2
 by_cases hlt:a.natAbs<b.natAbs
 ·skip
  have PT:=uh (PT' false _ hd')
  have PA:=uh (PA' (-1) (Or.inr rfl) (by omega))
  rw [Wh.fG (by omega)] at PM
  have PM:=uh PM
  clear hlt hd hd'
  generalize (b.natAbs:Int)+-1*(a.natAbs:Int)=y at *
  generalize a+b=z at *
  generalize Wh.dig a.natAbs=xs at *
  generalize Wh.dig b.natAbs=ys at *
  generalize xs.length=l1 at *
  generalize ys.length=l2 at *
  generalize decide (z<0)=s at *
  have b1:=((af.new w (.bool true) (.slice aa l1 capa) 106).alloc (.cells #[.bool false,.slice ab l2 capb] 106)).alloc (.cells #[.bool false,.slice none 0 0] 106)
  have b2:=(af.new2 w (.cells #[.bool true,.slice aa l1 capa] 106) (.bool false) (.slice ab l2 capb) 106).alloc (.cells #[.bool false,.slice none 0 0] 106)
  have b3:=af.new2 (w.alloc (.cells #[.bool true,.slice aa l1 capa] 106)) (.cells #[.bool false,.slice ab l2 capb] 106) (.bool false) (.slice none 0 0) 106
  rw [ui] at b3
  have hB:=(((uk w.heap.size w).alloc (ul _) (.cells #[.bool true,.slice aa l1 capa] 106)).alloc (by rw [ui];omega) (.cells #[.bool false,.slice ab l2 capb] 106)).alloc (by rw [ui,ui];omega) (.cells #[.bool false,.slice none 0 0] 106)
  generalize hw3:((w.alloc (.cells #[.bool true,.slice aa l1 capa] 106)).alloc (.cells #[.bool false,.slice ab l2 capb] 106)).alloc (.cells #[.bool false,.slice none 0 0] 106)=w3 at *
  have i1:=b1.c0
  have i2:=b1.c1
  have i3:=b2.c0
  have i4:=b2.c1
  go_enter Tryz.func78,Tryz.ntmps78
  go_wp2_with (go_at_call 97;(with_reducible refine (PM.out _ (hOA.out _ hB) (hOB.out _ hB)).mono ?_);rintro e wm ⟨rfl,hbm⟩;(have m1:=b1.keep hbm);(have m2:=b2.keep hbm);(have m3:=b3.keep hbm);(have j1:=m1.c0);(have j2:=m1.c1);(have j3:=m2.c0);(have j4:=m2.c1);(have k1:=m1.f0);(have k2:=m1.f1);(have k3:=m2.f0);(have k4:=m2.f1);(have Bm:=hB.trans (hbm.mono hB.size)))
  have n1:=(m1.store (.bool false) (.slice ab l2 capb)).other (c:=w.heap.size+1) (by omega) (.bool true) (.slice aa l1 capa)
  have n2:=(m2.other (c:=w.heap.size) (by omega) (.bool false) (.slice ab l2 capb)).store (.bool true) (.slice aa l1 capa)
  have n3:=(m3.other (c:=w.heap.size) (by omega) (.bool false) (.slice ab l2 capb)).other (c:=w.heap.size+1) (by omega) (.bool true) (.slice aa l1 capa)
  have Bn:=(((Bm.setCell (p:=⟨w.heap.size,0,none⟩) (ul _) (.bool false)).setCell (p:=⟨w.heap.size,1,none⟩) (ul _) (.slice ab l2 capb)).setCell (p:=⟨w.heap.size+1,0,none⟩) (Nat.le_succ _) (.bool true)).setCell (p:=⟨w.heap.size+1,1,none⟩) (Nat.le_succ _) (.slice aa l1 capa)
  generalize hwn:((((wm.setCell ⟨w.heap.size,0,none⟩ (.bool false)).setCell ⟨w.heap.size,1,none⟩ (.slice ab l2 capb)).setCell ⟨w.heap.size+1,0,none⟩ (.bool true)).setCell ⟨w.heap.size+1,1,none⟩ (.slice aa l1 capa))=wn at *
  clear i1 i2 i3 i4 j1 j2 j3 j4 k1 k2 k3 k4 m1 m2 m3 b1 b2 b3 hbm
  have e1:=n1.c0
  have e2:=n1.c1
  have e3:=n2.c0
  have e4:=n2.c1
  go_region_held3 (fun W=>W.cell? ⟨w.heap.size,0,none⟩=some (.bool false)∧W.cell? ⟨w.heap.size,1,none⟩=some (.slice ab l2 capb)∧W.cell? ⟨w.heap.size+1,0,none⟩=some (.bool true)∧W.cell? ⟨w.heap.size+1,1,none⟩=some (.slice aa l1 capa)) (first | (refine ⟨?_,?_,?_,?_⟩ <;> (first | (with_reducible exact aE (by assumption) (by assumption)) | (with_reducible exact Gr.aw (by assumption)) | (with_reducible refine Gr.bM (by assumption) ?_;(intro hh_;(try simp only [ui,aM,World.heap_drewN,aI] at hh_);omega)) | (with_reducible refine Gr.co (by assumption) ?_ ?_ <;> (intro hh_;(try simp only [ui,aM,World.heap_drewN,aI] at hh_);omega)) | exact aE (by assumption) (by assumption) | (with_reducible exact ar (by assumption) (by assumption) (by assumption)))) | (go_split_ands;(refine ⟨?_,?_,?_,?_⟩ <;> (first | (with_reducible exact aE (by assumption) (by assumption)) | (with_reducible exact Gr.aw (by assumption)) | (with_reducible refine Gr.bM (by assumption) ?_;(intro hh_;(try simp only [ui,aM,World.heap_drewN,aI] at hh_);omega)) | (with_reducible refine Gr.co (by assumption) ?_ ?_ <;> (intro hh_;(try simp only [ui,aM,World.heap_drewN,aI] at hh_);omega)) | exact aE (by assumption) (by assumption) | (with_reducible exact ar (by assumption) (by assumption) (by assumption))))) | go_keep) ((first
   | (go_at_call 96;(with_reducible refine (PA.out _ (hOB.out _ Bn.drew) (hOA.out _ Bn.drew)).mono ?_);rintro e w4 ⟨v4,rfl,ho4,hb4⟩;(have B4:=Bn.drew.trans (hb4.mono Bn.size));(have r4:=n3.drew.keep hb4);(have x1_:=aE hb4 (aW e1));(have x2_:=aE hb4 (aW e2));(have x3_:=aE hb4 (aW e3));(have x4_:=aE hb4 (aW e4));(have z4:wn.heap.size≤w4.heap.size:=hb4.size))
   | (go_at_call 95;(with_reducible refine (PT.out _ _ _ ho4).mono ?_);rintro e w5 ⟨vc,rfl,hoc,hbc⟩;obtain ⟨ac,capc,rfl,hmc,hvc⟩:=aF.view hoc;(have B5:=B4.trans (hbc.mono B4.size));(have r5:=r4.keep hbc);(have c0:=r5.c0);(have c1:=r5.c1);(have g0:=r5.f0);(have g1:=r5.f1);(have y1_:=aE hbc x1_);(have y2_:=aE hbc x2_);(have y3_:=aE hbc x3_);(have y4_:=aE hbc x4_);(clear hvc hmc))
   | fail "ARMS"))
  all_goals
   have hr:=cH (w:=w) (w.heap.size+1+1) _ (.bool s) (by omega) (Nat.lt_of_lt_of_le n3.size z4) hoc B5
   generalize (Wh.dig z.natAbs).length=n2_ at *
   go_wp2
   exact bodyPost_ret (v:=.agg #[.bool s,.slice ac n2_ capc]) (by simp [results,Tryz.results78,go_sem, *]) rfl (⟨_,rfl,hr.1,hr.2⟩)
 skip
 have PT:=uh (PT true _ hd)
 have PA:=uh (PA (-1) (Or.inr rfl) (by omega))
 have hr0:¬ Wh.sg3 (a.natAbs:Int) (b.natAbs:Int)<0:=by unfold Wh.sg3;rw [if_neg (by omega)];split <;> omega
 generalize Wh.sg3 (a.natAbs:Int) (b.natAbs:Int)=rr at *
 have PM:=uh PM
 clear hlt hd hd'
 generalize (a.natAbs:Int)+-1*(b.natAbs:Int)=y at *
 generalize a+b=z at *
 generalize Wh.dig a.natAbs=xs at *
 generalize Wh.dig b.natAbs=ys at *
 generalize xs.length=l1 at *
 generalize ys.length=l2 at *
 generalize decide (z<0)=s at *
 have b1:=((af.new w (.bool true) (.slice aa l1 capa) 106).alloc (.cells #[.bool false,.slice ab l2 capb] 106)).alloc (.cells #[.bool false,.slice none 0 0] 106)
 have b2:=(af.new2 w (.cells #[.bool true,.slice aa l1 capa] 106) (.bool false) (.slice ab l2 capb) 106).alloc (.cells #[.bool false,.slice none 0 0] 106)
 have b3:=af.new2 (w.alloc (.cells #[.bool true,.slice aa l1 capa] 106)) (.cells #[.bool false,.slice ab l2 capb] 106) (.bool false) (.slice none 0 0) 106
 rw [ui] at b3
 have hB:=(((uk w.heap.size w).alloc (ul _) (.cells #[.bool true,.slice aa l1 capa] 106)).alloc (by rw [ui];omega) (.cells #[.bool false,.slice ab l2 capb] 106)).alloc (by rw [ui,ui];omega) (.cells #[.bool false,.slice none 0 0] 106)
 generalize hw3:((w.alloc (.cells #[.bool true,.slice aa l1 capa] 106)).alloc (.cells #[.bool false,.slice ab l2 capb] 106)).alloc (.cells #[.bool false,.slice none 0 0] 106)=w3 at *
 have i1:=b1.c0
 have i2:=b1.c1
 have i3:=b2.c0
 have i4:=b2.c1
 go_enter Tryz.func78,Tryz.ntmps78
 go_wp2_with (go_at_call 97;(with_reducible refine (PM.out _ (hOA.out _ hB) (hOB.out _ hB)).mono ?_);rintro e wm ⟨rfl,hbm⟩;(have m1:=b1.keep hbm);(have m2:=b2.keep hbm);(have m3:=b3.keep hbm);(have j1:=m1.c0);(have j2:=m1.c1);(have j3:=m2.c0);(have j4:=m2.c1);(have k1:=m1.f0);(have k2:=m1.f1);(have k3:=m2.f0);(have k4:=m2.f1);(have Bm:=hB.trans (hbm.mono hB.size)))
 have n1:=m1
 have n2:=m2
 have n3:=m3
 have Bn:=Bm
 clear i1 i2 i3 i4 j1 j2 j3 j4 k1 k2 k3 k4 m1 m2 m3 b1 b2 b3 hbm
 have e1:=n1.c0
 have e2:=n1.c1
 have e3:=n2.c0
 have e4:=n2.c1
 go_region_held3 (fun W=>W.cell? ⟨w.heap.size,0,none⟩=some (.bool true)∧W.cell? ⟨w.heap.size,1,none⟩=some (.slice aa l1 capa)∧W.cell? ⟨w.heap.size+1,0,none⟩=some (.bool false)∧W.cell? ⟨w.heap.size+1,1,none⟩=some (.slice ab l2 capb)) (first | (refine ⟨?_,?_,?_,?_⟩ <;> (first | (with_reducible exact aE (by assumption) (by assumption)) | (with_reducible exact Gr.aw (by assumption)) | (with_reducible refine Gr.bM (by assumption) ?_;(intro hh_;(try simp only [ui,aM,World.heap_drewN,aI] at hh_);omega)) | (with_reducible refine Gr.co (by assumption) ?_ ?_ <;> (intro hh_;(try simp only [ui,aM,World.heap_drewN,aI] at hh_);omega)) | exact aE (by assumption) (by assumption) | (with_reducible exact ar (by assumption) (by assumption) (by assumption)))) | (go_split_ands;(refine ⟨?_,?_,?_,?_⟩ <;> (first | (with_reducible exact aE (by assumption) (by assumption)) | (with_reducible exact Gr.aw (by assumption)) | (with_reducible refine Gr.bM (by assumption) ?_;(intro hh_;(try simp only [ui,aM,World.heap_drewN,aI] at hh_);omega)) | (with_reducible refine Gr.co (by assumption) ?_ ?_ <;> (intro hh_;(try simp only [ui,aM,World.heap_drewN,aI] at hh_);omega)) | exact aE (by assumption) (by assumption) | (with_reducible exact ar (by assumption) (by assumption) (by assumption))))) | go_keep) ((first
  | (go_at_call 96;(with_reducible refine (PA.out _ (hOA.out _ Bn.drew) (hOB.out _ Bn.drew)).mono ?_);rintro e w4 ⟨v4,rfl,ho4,hb4⟩;(have B4:=Bn.drew.trans (hb4.mono Bn.size));(have r4:=n3.drew.keep hb4);(have x1_:=aE hb4 (aW e1));(have x2_:=aE hb4 (aW e2));(have x3_:=aE hb4 (aW e3));(have x4_:=aE hb4 (aW e4));(have z4:wm.heap.size≤w4.heap.size:=hb4.size))
  | (go_at_call 95;(with_reducible refine (PT.out _ _ _ ho4).mono ?_);rintro e w5 ⟨vc,rfl,hoc,hbc⟩;obtain ⟨ac,capc,rfl,hmc,hvc⟩:=aF.view hoc;(have B5:=B4.trans (hbc.mono B4.size));(have r5:=r4.keep hbc);(have c0:=r5.c0);(have c1:=r5.c1);(have g0:=r5.f0);(have g1:=r5.f1);(have y1_:=aE hbc x1_);(have y2_:=aE hbc x2_);(have y3_:=aE hbc x3_);(have y4_:=aE hbc x4_);(clear hvc hmc))
  | fail "ARMS"))
 all_goals
  have hr:=cH (w:=w) (w.heap.size+1+1) _ (.bool s) (by omega) (Nat.lt_of_lt_of_le n3.size z4) hoc B5
  generalize (Wh.dig z.natAbs).length=n2_ at *
  go_wp2
  exact bodyPost_ret (v:=.agg #[.bool s,.slice ac n2_ capc]) (by simp [results,Tryz.results78,go_sem, *]) rfl (⟨_,rfl,hr.1,hr.2⟩)
namespace Wh
theorem nw (a b:Int):sgn (decide (a<0) != decide (b<0)) ((a.natAbs:Int)*(b.natAbs:Int))=a*b:=by
 rcases Int.natAbs_eq a with ha | ha <;> rcases Int.natAbs_eq b with hb | hb
 all_goals
  generalize a.natAbs=m at *
  generalize b.natAbs=n at *
  subst ha hb
 ·rw [decide_eq_false (by omega),decide_eq_false (by omega)];rfl
 ·by_cases h:n=0
  ·subst h;simp [sgn]
  rw [decide_eq_false (by omega),decide_eq_true (by omega)]
  show -((m:Int)*(n:Int))=(m:Int)*-(n:Int)
  rw [Int.mul_neg]
 ·by_cases h:m=0
  ·subst h;simp [sgn]
  rw [decide_eq_true (by omega),decide_eq_false (by omega)]
  show -((m:Int)*(n:Int))=-(m:Int)*(n:Int)
  rw [Int.neg_mul]
 by_cases h:m=0
 ·subst h;simp [sgn]
 by_cases h':n=0
 ·subst h';simp [sgn]
 rw [decide_eq_true (by omega),decide_eq_true (by omega)]
 show (m:Int)*(n:Int)=-(m:Int)*-(n:Int)
 rw [Int.neg_mul_neg]
theorem t8 (n:Nat):bG (List.replicate n 0):=fun x hx=>by rw [(List.mem_replicate.1 hx).2];exact ⟨Int.le_refl _,by decide⟩
theorem rc:∀ n:Nat,val (List.replicate n 0)=0
 | 0=>rfl
 | n+1=>by
  rw [List.replicate_succ]
  show 0+10000*val (List.replicate n 0)=0
  rw [rc n]
  rfl
theorem MInv.tj {o0 o:List Int} {x:Int} {b:List Int} {i k:Nat} {c:Int} (h:MInv o0 o x b i k c):o[k]?=o0[k]?:=by
 have:=congrArg (fun l:List Int=>l[0]?) h.rest
 simpa [List.getElem?_drop] using this
end Wh
theorem cV (a b:Int) (va vb:Value) (w:World) (ba bb:Nat) (hoa:ae w ba va a) (hob:ae w bb vb b) (hl1:(Wh.dig a.natAbs).length≤10000) (hl2:(Wh.dig b.natAbs).length≤10000) :
  Calls Tryz.prog 76 #[.agg #[.bool (decide (a<0)),va],.agg #[.bool (decide (b<0)),vb]] w fun e w'=>∃ sl,e=.returned (.agg #[.bool (decide (a*b<0)),sl])∧ae w' w.heap.size sl (a*b)∧Below w.heap.size w w':=by
 obtain ⟨aa,capa,rfl,hma,hva⟩:=aF.seen hoa
 obtain ⟨ab,capb,rfl,hmb,hvb⟩:=aF.seen hob
 have hva:=uh hva
 have hvb:=uh hvb
 have hla:=uh (Wh.ai a.natAbs)
 have hlb:=uh (Wh.ai b.natAbs)
 have PT:=fun W v base ho=>eh (a*b) ((a.natAbs:Int)*(b.natAbs:Int)) ((Wh.dig a.natAbs).length+(Wh.dig b.natAbs).length+1) (decide (a<0) != decide (b<0)) v W base ho (by omega) (Wh.nw a b)
 have hpr:Hid (∀ (x y:List Int),x=Wh.dig a.natAbs→y=Wh.dig b.natAbs→Wh.val x*Wh.val y=(a.natAbs:Int)*(b.natAbs:Int)):=uh fun x y h1 h2=>by rw [h1,h2,Wh.bI,Wh.bI]
 have hpr:=uh (hpr.out _ _ rfl rfl)
 generalize decide (a<0)=s1 at *
 generalize decide (b<0)=s2 at *
 generalize (a.natAbs:Int)*(b.natAbs:Int)=y at *
 generalize a*b=z at *
 generalize decide (z<0)=s at *
 generalize Wh.dig a.natAbs=xs at *
 generalize Wh.dig b.natAbs=ys at *
 clear hma hmb hoa hob
 have b1:=((af.new w (.bool s1) (.slice aa xs.length capa) 106).alloc (.cells #[.bool s2,.slice ab ys.length capb] 106)).alloc (.cells #[.bool false,.slice none 0 0] 106)
 have b2:=(af.new2 w (.cells #[.bool s1,.slice aa xs.length capa] 106) (.bool s2) (.slice ab ys.length capb) 106).alloc (.cells #[.bool false,.slice none 0 0] 106)
 have b3:=af.new2 (w.alloc (.cells #[.bool s1,.slice aa xs.length capa] 106)) (.cells #[.bool s2,.slice ab ys.length capb] 106) (.bool false) (.slice none 0 0) 106
 rw [ui] at b3
 have hB:=(((uk w.heap.size w).alloc (ul _) (.cells #[.bool s1,.slice aa xs.length capa] 106)).alloc (by rw [ui];omega) (.cells #[.bool s2,.slice ab ys.length capb] 106)).alloc (by rw [ui,ui];omega) (.cells #[.bool false,.slice none 0 0] 106)
 generalize hw3:((w.alloc (.cells #[.bool s1,.slice aa xs.length capa] 106)).alloc (.cells #[.bool s2,.slice ab ys.length capb] 106)).alloc (.cells #[.bool false,.slice none 0 0] 106)=w3 at *
 obtain ⟨w4,hrun,hown1,hg1⟩:=jh w3 (xs.length+ys.length+1) (by omega)
 rw [show ((xs.length+ys.length+1:Nat):Int)=(xs.length:Int)+(ys.length:Int)+1 by omega] at hrun
 have hb4:Below w3.heap.size w3 w4:=cU hg1 (ul _) (fun k hk=>by cases hk)
 have hB3:=uh hB
 have e2:=b1.c1
 have e4:=b2.c1
 have k2:=b1.keep hb4
 have k4:=b2.keep hb4
 have f2:=k2.c1
 have f4:=k4.c1
 clear hg1
 go_enter Tryz.func76,Tryz.ntmps76
 go_wp2
 have b1h:=uh b1
 have b2h:=uh b2
 have b3h:=uh b3
 clear e2 e4 k2 k4 f2 f4 b1 b2 b3 hB
 go_loopw [6,7,8,9,10,23] (fun _ _ _ _ _ vi wr=>∃ (i:Nat) (o:List Int),i≤xs.length∧vi=.int .i64 i∧aF wr w3.heap.size (.slice (some ⟨w3.heap.size,0,none⟩) (xs.length+ys.length+1) (xs.length+ys.length+1)) o∧o.length=(xs.length+ys.length+1)∧Wh.bG o∧Wh.val o=Wh.val (xs.take i)*Wh.val ys∧Below w3.heap.size w3 wr) (fun _ _ _ _ _ vi _=>xs.length - (intOf vi).toNat)
 case atStart=>exact ⟨0,List.replicate (xs.length+ys.length+1) 0,Nat.zero_le _,rfl,hown1,List.length_replicate,Wh.t8 _,by rw [Wh.rc];simp [Wh.val],hb4⟩
 case round=>
 clear hown1 hb4
 obtain ⟨i,o,hi,rfl,hown,hlen,hls,hvo,hbr⟩:=hrel
 have hlen:=uh hlen
 have hls:=uh hls
 have hvo:=uh hvo
 have c1:=b1h.out.dI hbr b1h.out.size
 have c2:=b2h.out.dI hbr b2h.out.size
 have c3:=b3h.out.dI hbr b3h.out.size
 have hwr:Below w.heap.size w wr:=hB3.out.trans (hbr.mono hB3.out.size)
 by_cases hlt:i<xs.length
 ·obtain ⟨ga,x,ea,hga,hxa,hca⟩:=hva.out i hlt
  subst ea
  have hca2:=aE hwr hca
  have hlx:=uh (hla.out x (List.mem_of_getElem? hxa.out))
  have hrow:=uh (Wh.q9 hxa.out hvo.out)
  have hplt:=uh (Wh.nz (n:=(xs.length+ys.length+1)) (Wh.eM hla.out (i+1)) hlb.out (by rw [List.length_take];omega))
  have d2:=c1.c1
  have d4:=c2.c1
  clear hca c1 c2 c3 hwr
  go_wp2
  go_loopw [8,9,10] (fun vc vk _ wq=>∃ (d:Nat) (p:List Int) (c:Int),i+d≤(xs.length+ys.length+1)∧vk=.int .i64 ((i+d:Nat):Int)∧vc=.int .i64 c∧aF wq w3.heap.size (.slice (some ⟨w3.heap.size,0,none⟩) (xs.length+ys.length+1) (xs.length+ys.length+1)) p∧Wh.MInv o p x ys i (i+d) c∧Below w3.heap.size w3 wq) (fun _ vk _ _=>(xs.length+ys.length+1) - (intOf vk).toNat)
  case atStart=>exact ⟨0,o,0,by omega,rfl,rfl,hown,Wh.MInv.start hls.out x ys i,hbr⟩
  case round=>
  clear hown hbr hca2 d2 d4
  obtain ⟨d,p,c,hd,rfl,rfl,hown,hmi,hbq⟩:=hrel
  have c1:=b1h.out.dI hbq b1h.out.size
  have c2:=b2h.out.dI hbq b2h.out.size
  have hwq:Below w.heap.size w wr:=hB3.out.trans (hbq.mono hB3.out.size)
  by_cases hk:i+d<(xs.length+ys.length+1)
  ·obtain ⟨t,ht⟩:∃ t,o[i+d]?=some t:=⟨_,List.getElem?_eq_getElem (by rw [hlen.out];exact hk)⟩
   have hpl:=hmi.len.trans hlen.out
   have hpk:=hmi.tj.trans ht
   have hc0:=aF.cellAt hpl.symm hown hpk
   have hf0:wr.frozen? ⟨w3.heap.size,i+d,none⟩=false:=eS hpl hown (i+d)
   have hst:=uh fun y=>aF.set (j:=i+d) hpl.symm hown y rfl
   have hstep:=fun y hy=>hmi.step (y:=y) hls.out hlx.out hlb.out (Nat.le_add_right _ _) ht hy
   rw [Nat.add_sub_cancel_left] at hstep
   have hstep:=uh hstep
   have htl:=hls.out t (List.mem_of_getElem? ht)
   unfold Wh.lim at htl
   have hcr:=hmi.c0
   have hbs2:=uh hbq
   have d4:=c2.c1
   have hzq:w3.heap.size<wr.heap.size:=World.block_lt_of_cell? wr _ hc0
   clear hmi hpl hpk ht hown c1 c2
   by_cases hdl:d<ys.length
   ·obtain ⟨gb,yb,eb,hgb,hxb,hcb⟩:=hvb.out d hdl
    subst eb
    have hcb:=aE hwq hcb
    have hny:=Wh.cX hxb.out
    have hm:=Wh.kH hlx.out (hlb.out yb (List.mem_of_getElem? hxb.out))
    rw [hny] at hstep
    have hny:x*yb=x*yb:=rfl
    generalize hpb:x*yb=pb at *
    clear hny
    have hny:pb=pb:=rfl
    have hS:=hstep.out (t+c+pb) rfl
    have hy0:=hS.1
    have t1:Int.tmod (t+c+pb) 10000=(t+c+pb) % 10000:=Int.tmod_eq_emod_of_nonneg hy0.1
    have t2:Int.tdiv (t+c+pb) 10000=(t+c+pb) / 10000:=Int.tdiv_eq_ediv_of_nonneg hy0.1
    have hrr:0≤(t+c+pb) % 10000∧(t+c+pb) % 10000<10000:=by omega
    have hqq:0≤(t+c+pb) / 10000∧(t+c+pb) / 10000≤9999:=by omega
    have hS2:=uh hS.2
    have hO:=uh (hst.out ((t+c+pb) % 10000))
    clear hS hstep hst hny
    generalize (t+c+pb) % 10000=r at *
    generalize (t+c+pb) / 10000=qq at *
    go_wp2
    go_roundw
    case rel=>exact ⟨d+1,_,_,by omega,by go_num,by go_num,hO.out.1,hS2.out,hbs2.out.setCell (ul _) _⟩
    case measure=>simp [intOf];omega
   have hny:=Wh.cW (l:=ys) (i:=d) (by omega)
   rw [hny,Int.mul_zero] at hstep
   have hS:=hstep.out (t+c) (by omega)
   have hy0:=hS.1
   have t1:Int.tmod (t+c) 10000=(t+c) % 10000:=Int.tmod_eq_emod_of_nonneg hy0.1
   have t2:Int.tdiv (t+c) 10000=(t+c) / 10000:=Int.tdiv_eq_ediv_of_nonneg hy0.1
   have hrr:0≤(t+c) % 10000∧(t+c) % 10000<10000:=by omega
   have hqq:0≤(t+c) / 10000∧(t+c) / 10000≤9999:=by omega
   have hS2:=uh hS.2
   have hO:=uh (hst.out ((t+c) % 10000))
   clear hS hstep hst hny
   generalize (t+c) % 10000=r at *
   generalize (t+c) / 10000=qq at *
   go_wp2
   go_roundw
   case rel=>exact ⟨d+1,_,_,by omega,by go_num,by go_num,hO.out.1,hS2.out,hbs2.out.setCell (ul _) _⟩
   case measure=>simp [intOf];omega
  have e:i+d=(xs.length+ys.length+1):=by omega
  rw [e] at hmi
  have hf:=uh (hmi.fin hlen.out (by omega) hrow.out hplt.out hls.out)
  have hpl:=uh (hmi.len.trans hlen.out)
  have hll:=uh (hmi.bG hls.out)
  have hown:=uh hown
  clear hmi c1 c2
  go_wp2
  go_roundw
  case rel=>exact ⟨i+1,p,by omega,by go_num,hown.out,hpl.out,hll.out,hf.out,hbq⟩
  case measure=>simp [intOf];omega
 obtain rfl:i=xs.length:=by omega
 rw [List.take_length] at hvo
 have hov:Hid (iS wr w3.heap.size (.slice (some ⟨w3.heap.size,0,none⟩) (xs.length+ys.length+1) (xs.length+ys.length+1)) y (xs.length+ys.length+1)):=uh ⟨o,hown,hls.out,by rw [hvo.out,hpr.out],by rw [hlen.out];exact ul _⟩
 have d1:=c1.c0
 have d2:=c2.c0
 clear hown
 rw [show (s1 != s2)=!(s1 == s2) from rfl] at PT
 have PT:=uh PT
 go_wp2_with (go_at_call 95;(with_reducible refine (PT.out _ _ _ hov.out).mono ?_);rintro e w5 ⟨vc,rfl,hoc,hbc⟩;obtain ⟨ac,capc,rfl,hmc,hvc⟩:=aF.view hoc;(have r5:=c3.keep hbc);(have p0:=r5.c0);(have p1:=r5.c1);(have g0:=r5.f0);(have g1:=r5.f1);(clear hvc hmc))
 have hr:=cH (w:=w) (w.heap.size+1+1) _ (.bool s) (by omega) c3.size hoc (hwr.trans (hbc.mono hwr.size))
 generalize (Wh.dig z.natAbs).length=n2_ at *
 exact bodyPost_ret (v:=.agg #[.bool s,.slice ac n2_ capc]) (by simp [results,Tryz.results76,go_sem, *]) rfl (⟨_,rfl,hr.1,hr.2⟩)
namespace Wh
theorem qL {a n:Int} (ha:¬ a<0):sgn false ((a.natAbs:Int) / n)=a / n∧(a.natAbs:Int) % n=a % n:=by
 rw [show (a.natAbs:Int)=a by omega]
 exact ⟨rfl,rfl⟩
theorem qJ {a n:Int} (hn:0<n) (ha:a<0) (hr:(a.natAbs:Int) % n=0):sgn true ((a.natAbs:Int) / n)=a / n∧(a.natAbs:Int) % n=a % n:=by
 have h1:=Int.mul_ediv_add_emod (a.natAbs:Int) n
 rw [hr] at h1 ⊢
 have h2:a=n*-((a.natAbs:Int) / n):=by
  rw [Int.mul_neg]
  omega
 constructor
 ·show -((a.natAbs:Int) / n)=a / n
  conv=>rhs;rw [h2]
  rw [Int.mul_ediv_cancel_left _ (by omega)]
 conv=>rhs;rw [h2]
 rw [Int.mul_emod_right]
theorem qK {a n:Int} (hn:0<n) (ha:a<0) (hr:¬ (a.natAbs:Int) % n=0):sgn true ((a.natAbs:Int) / n)+-1=a / n∧n - (a.natAbs:Int) % n=a % n:=by
 have h1:=Int.mul_ediv_add_emod (a.natAbs:Int) n
 have h3:=Int.emod_nonneg (a.natAbs:Int) (show n≠0 by omega)
 have h4:=Int.emod_lt_of_pos (a.natAbs:Int) hn
 generalize (a.natAbs:Int) / n=q at *
 generalize (a.natAbs:Int) % n=r at *
 have h2:a=(n - r)+n*(-q+-1):=by
  rw [Int.mul_add,Int.mul_neg]
  omega
 constructor
 ·show -q+-1=a / n
  rw [h2,Int.add_mul_ediv_left _ _ (by omega),Int.ediv_eq_zero_of_lt (by omega) (by omega),Int.zero_add]
 rw [h2,Int.add_mul_emod_self_left,Int.emod_eq_of_lt (by omega) (by omega)]
theorem nY {a n:Int} (s:Bool) (hn:0<n):(dig (sgn s ((a.natAbs:Int) / n)).natAbs).length≤(dig a.natAbs).length:=by
 refine dc ?_
 have h1:0≤(a.natAbs:Int) / n:=Int.ediv_nonneg (by omega) (by omega)
 have h2:(a.natAbs:Int) / n≤a.natAbs:=Int.ediv_le_self _ (by omega)
 rw [kW h1]
 omega
theorem gp:(dig (-1:Int).natAbs).length≤1:=dE (k:=1) (by decide)
end Wh
theorem fh (a n:Int) (va:Value) (w:World) (ba:Nat) (hoa:ae w ba va a) (hl:(Wh.dig a.natAbs).length≤9000) (hn1:1≤n) (hn2:n≤1000000000000) :
  Calls Tryz.prog 151 #[.agg #[.bool (decide (a<0)),va],.int .i64 n] w fun e w'=>∃ sl,e=.returned (.tuple #[.agg #[.bool (decide (a / n<0)),sl],.int .i64 (a % n)])∧ae w' w.heap.size sl (a / n)∧Below w.heap.size w w':=by
 obtain ⟨aa,capa,rfl,hma,hva⟩:=aF.seen hoa
 have hva:=uh hva
 have hla:=uh (Wh.ai a.natAbs)
 have hvl:=uh (Wh.bI a.natAbs)
 have hq0:=fun s=>Wh.nY (a:=a) (n:=n) s (by omega)
 have PT:=fun s W v base ho=>eh (Wh.sgn s ((a.natAbs:Int) / n)) ((a.natAbs:Int) / n) (Wh.dig a.natAbs).length s v W base ho (by omega) rfl
 have d0:=fun h=>Wh.qL (a:=a) (n:=n) h
 have d1:=fun h h'=>Wh.qJ (a:=a) (n:=n) (by omega) h h'
 have d2:=fun h h'=>Wh.qK (a:=a) (n:=n) (by omega) h h'
 have d0:=uh d0
 have d1:=uh d1
 have d2:=uh d2
 clear hma hoa
 obtain ⟨s1,hs1⟩:∃ s,decide (a<0)=s:=⟨_,rfl⟩
 rw [hs1]
 have hs1:=uh hs1
 generalize a / n=z at *
 generalize a % n=zr at *
 generalize hab:(a.natAbs:Int)=A at *
 have hvl2:Hid (Wh.val (Wh.dig a.natAbs)=A):=hvl
 clear hvl hab
 generalize Wh.dig a.natAbs=xs at *
 obtain ⟨s,hsd⟩:∃ s,Hid (decide (z<0)=s):=⟨_,uh rfl⟩
 rw [hsd.out]
 have b1:=(af.new w (.bool s1) (.slice aa xs.length capa) 106).alloc (.cells #[.bool false,.slice none 0 0] 106)
 have b2:=af.new2 w (.cells #[.bool s1,.slice aa xs.length capa] 106) (.bool false) (.slice none 0 0) 106
 have hB:=((uk w.heap.size w).alloc (ul _) (.cells #[.bool s1,.slice aa xs.length capa] 106)).alloc (by rw [ui];omega) (.cells #[.bool false,.slice none 0 0] 106)
 generalize hw3:(w.alloc (.cells #[.bool s1,.slice aa xs.length capa] 106)).alloc (.cells #[.bool false,.slice none 0 0] 106)=w3 at *
 obtain ⟨w4,hrun,hown1,hg1⟩:=jh w3 xs.length (by omega)
 have hb4:Below w3.heap.size w3 w4:=cU hg1 (ul _) (fun k hk=>by cases hk)
 have hB3:=uh hB
 have e2:=b1.c1
 have b1h:=uh b1
 have b2h:=uh b2
 clear hg1 b2 hB
 go_enter Tryz.func151,Tryz.ntmps151
 go_wp2
 clear e2 b1
 go_loopw [7,8] (fun vr vi wr=>∃ (k:Nat) (q:List Int) (r:Int),k≤xs.length∧vi=.int .i64 ((k:Int) - 1)∧vr=.int .i64 r∧aF wr w3.heap.size (.slice (some ⟨w3.heap.size,0,none⟩) xs.length xs.length) q∧Wh.iP xs q n k r∧Below w3.heap.size w3 wr) (fun _ vi _=>(intOf vi+1).toNat)
 case atStart=>exact ⟨xs.length,List.replicate xs.length 0,0,ul _,rfl,rfl,hown1,Wh.iP.start (by omega) List.length_replicate,hb4⟩
 case round=>
 clear hown1 hb4
 obtain ⟨k,q,r,hk,rfl,rfl,hown,hdi,hbr⟩:=hrel
 have c1:=b1h.out.dI hbr b1h.out.size
 have c2:=b2h.out.dI hbr b2h.out.size
 have hwr:Below w.heap.size w wr:=hB3.out.trans (hbr.mono hB3.out.size)
 cases k with
 | zero=>
  have hf:=hdi.fin
  rw [hvl2.out] at hf
  obtain ⟨hq1,rfl,hq3⟩:=hf
  have hov:Hid (iS wr w3.heap.size (.slice (some ⟨w3.heap.size,0,none⟩) xs.length xs.length) (A / n) xs.length):=uh ⟨q,hown,hq3,hq1,by rw [hdi.len];exact ul _⟩
  have hd0:=c1.c0
  clear hdi hown hq1 hq3
  cases s1
  ·have hna:¬ a<0:=by have:=hs1.out;simpa using this
   obtain ⟨hz1,hz2⟩:=d0.out (by omega)
   have PT:=PT false
   rw [hz1] at PT
   rw [hsd.out] at PT
   have PT:=uh PT
   rw [hz2]
   go_wp2_with (go_at_call 95;(with_reducible refine (PT.out _ _ _ hov.out).mono ?_);rintro e w5 ⟨vc,rfl,hoc,hbc⟩;obtain ⟨ac,capc,rfl,hmc,hvc⟩:=aF.view hoc;(have r5:=c2.keep hbc);(have b5:=c1.keep hbc);(have p0:=r5.c0);(have p1:=r5.c1);(have g0:=r5.f0);(have g1:=r5.f1);(have z5:=r5.size);(have y5:=b5.size);(have x0:=b5.c0);(clear hvc hmc))
   have hr0:=cH (w:=w) (w2:=w5) (w.heap.size+1) _ (.bool s) (by omega) c2.size hoc (hwr.trans (hbc.mono hwr.size))
   have hr1:=aF.alloc hr0.1 (.cells #[.bool s,.slice ac (Wh.dig z.natAbs).length capc] 106)
   have hr2:=hr0.2.alloc hr0.2.size (.cells #[.bool s,.slice ac (Wh.dig z.natAbs).length capc] 106)
   generalize (Wh.dig z.natAbs).length=n2_ at *
   exact bodyPost_ret (v:=.tuple #[.agg #[.bool s,.slice ac n2_ capc],.int .i64 zr]) (by simp [results,Tryz.results151,go_sem, *]) rfl (⟨_,rfl,hr1,hr2⟩)
  have hna:a<0:=by have:=hs1.out;simpa using this
  by_cases hrz:A % n=0
  ·skip
   obtain ⟨hz1,hz2⟩:=d1.out hna hrz
   have PT:=PT true
   rw [hz1] at PT
   rw [hsd.out] at PT
   have PT:=uh PT
   rw [hz2] at hrz ⊢
   go_wp2_with (go_at_call 95;(with_reducible refine (PT.out _ _ _ hov.out).mono ?_);rintro e w5 ⟨vc,rfl,hoc,hbc⟩;obtain ⟨ac,capc,rfl,hmc,hvc⟩:=aF.view hoc;(have r5:=c2.keep hbc);(have b5:=c1.keep hbc);(have p0:=r5.c0);(have p1:=r5.c1);(have g0:=r5.f0);(have g1:=r5.f1);(have z5:=r5.size);(have y5:=b5.size);(have x0:=b5.c0);(clear hvc hmc))
   have hr0:=cH (w:=w) (w2:=w5) (w.heap.size+1) _ (.bool s) (by omega) c2.size hoc (hwr.trans (hbc.mono hwr.size))
   have hr1:=aF.alloc hr0.1 (.cells #[.bool s,.slice ac (Wh.dig z.natAbs).length capc] 106)
   have hr2:=hr0.2.alloc hr0.2.size (.cells #[.bool s,.slice ac (Wh.dig z.natAbs).length capc] 106)
   generalize (Wh.dig z.natAbs).length=n2_ at *
   exact bodyPost_ret (v:=.tuple #[.agg #[.bool s,.slice ac n2_ capc],.int .i64 zr]) (by simp [results,Tryz.results151,go_sem, *]) rfl (⟨_,rfl,hr1,hr2⟩)
  obtain ⟨hz1,hz2⟩:=d2.out hna hrz
  have PT:=PT true
  have hq1:=hq0 true
  have hrp:0<A % n:=by have:=Int.emod_nonneg A (show n≠0 by omega);omega
  have hrn:A % n<n:=Int.emod_lt_of_pos _ (by omega)
  generalize Wh.sgn true (A / n)=y0 at *
  generalize A % n=rr at *
  have PW:=fun W=>bX (-1) W (by omega) (by omega)
  have PA:=fun va vb W ba bb (h1:aF W ba va (Wh.dig y0.natAbs)) (h2:aF W bb vb (Wh.dig (-1:Int).natAbs))=>et y0 (-1) va vb W ba bb h1 h2 (by omega) (by have:=Wh.gp;omega)
  rw [decide_eq_true (show (-1:Int)<0 by decide)] at PW PA
  rw [hz1,hsd.out] at PA
  have hrp2:=hrp
  obtain ⟨s0,hs0⟩:∃ s0,decide (y0<0)=s0:=⟨_,rfl⟩
  rw [hs0] at PT PA
  have PT:=uh PT
  have PW:=uh PW
  have PA:=uh PA
  replace hz2:=uh hz2
  clear hz1 hs0 hq0 hq1 d0 d1 d2 hrz
  go_wp2_with (go_at_call 95;(with_reducible refine (PT.out _ _ _ hov.out).mono ?_);rintro e w5 ⟨vc,rfl,hoc,hbc⟩;obtain ⟨ac,capc,rfl,hmc,hvc⟩:=aF.view hoc;(have r5:=c2.keep hbc);(have b5:=c1.keep hbc);(have p0:=r5.c0);(have p1:=r5.c1);(have g0:=r5.f0);(have g1:=r5.f1);(have z5:=r5.size);(have y5:=b5.size);(have x0:=b5.c0);(clear hvc hmc))
  have bt:=af.new w5 (.bool s0) (.slice ac (Wh.dig y0.natAbs).length capc) 106
  have r6:=r5.alloc (.cells #[.bool s0,.slice ac (Wh.dig y0.natAbs).length capc] 106)
  have hoc6:=aF.alloc hoc (.cells #[.bool s0,.slice ac (Wh.dig y0.natAbs).length capc] 106)
  have B6:=(hwr.trans (hbc.mono hwr.size)).alloc (by have:=(hwr.trans (hbc.mono hwr.size)).size;omega) (.cells #[.bool s0,.slice ac (Wh.dig y0.natAbs).length capc] 106)
  have u0:=bt.c0
  have u1:=bt.c1
  have zz:w5.heap.size<(w5.alloc (.cells #[.bool s0,.slice ac (Wh.dig y0.natAbs).length capc] 106)).heap.size:=bt.size
  generalize w5.alloc (.cells #[.bool s0,.slice ac (Wh.dig y0.natAbs).length capc] 106)=w6 at *
  generalize (Wh.dig y0.natAbs).length=l0 at *
  clear p0 p1 g0 g1 x0
  go_region_held3 (fun W=>W.cell? ⟨w5.heap.size,0,none⟩=some (.bool s0)∧W.cell? ⟨w5.heap.size,1,none⟩=some (.slice ac l0 capc)) (first | (refine ⟨?_,?_⟩ <;> (first | (with_reducible exact aE (by assumption) (by assumption)) | (with_reducible exact Gr.aw (by assumption)) | (with_reducible refine Gr.bM (by assumption) ?_;(intro hh_;(try simp only [ui,aM,World.heap_drewN,aI] at hh_);omega)) | (with_reducible refine Gr.co (by assumption) ?_ ?_ <;> (intro hh_;(try simp only [ui,aM,World.heap_drewN,aI] at hh_);omega)) | exact aE (by assumption) (by assumption) | (with_reducible exact ar (by assumption) (by assumption) (by assumption)))) | (go_split_ands;(refine ⟨?_,?_⟩ <;> (first | (with_reducible exact aE (by assumption) (by assumption)) | (with_reducible exact Gr.aw (by assumption)) | (with_reducible refine Gr.bM (by assumption) ?_;(intro hh_;(try simp only [ui,aM,World.heap_drewN,aI] at hh_);omega)) | (with_reducible refine Gr.co (by assumption) ?_ ?_ <;> (intro hh_;(try simp only [ui,aM,World.heap_drewN,aI] at hh_);omega)) | exact aE (by assumption) (by assumption) | (with_reducible exact ar (by assumption) (by assumption) (by assumption))))) | go_keep) ((first
   | (go_at_call 77;(with_reducible refine (PW.out _).mono ?_);rintro e w7 ⟨v7,rfl,ho7,hb7⟩;(have ho7':aF _ _ _ (Wh.dig (-1:Int).natAbs):=ho7);(have x0_:=aE hb7 (aW u0));(have x1_:=aE hb7 (aW u1));(have r7:=r6.drew.keep hb7);(have B7:=B6.drew.trans (hb7.mono B6.size));(have hoc7:=aF.below (aF.below hoc6 (uk _ _).drew) hb7);(have z7:w6.heap.size≤w7.heap.size:=hb7.size))
   | (go_at_call 78;(with_reducible refine (PA.out _ _ _ _ _ hoc7 ho7').mono ?_);rintro e w8 ⟨v8,rfl,ho8,hb8⟩;obtain ⟨a8,cap8,rfl,hm8,hv8⟩:=aF.view ho8;(have y0_:=aE hb8 x0_);(have y1_:=aE hb8 x1_);(have r8:=r7.keep hb8);(have p0:=r8.c0);(have p1:=r8.c1);(have g0:=r8.f0);(have g1:=r8.f1);(have B8:=B7.trans (hb8.mono B7.size));(clear hv8 hm8))
   | fail "ARMS"))
  all_goals
   have hr:=cH (w:=w) (w.heap.size+1) _ (.bool s) (by omega) r7.size ho8 B8
   generalize (Wh.dig z.natAbs).length=n2_ at *
   go_wp2
   have hwz:IntKind.i64.wrap (n - rr)=n - rr:=by
    rw [IntKind.wrap_i64]
    omega
   exact bodyPost_ret (v:=.tuple #[.agg #[.bool s,.slice a8 n2_ cap8],.int .i64 (n - rr)]) (by simp [results,Tryz.results151,go_sem, *]) rfl (⟨_,by rw [hz2.out],hr.1,hr.2⟩)
 | succ j=>
 obtain ⟨ga,x,ea,hga,hxa,hca⟩:=hva.out j (by omega)
 subst ea
 have hca:=aE hwr hca
 have hr0:=hdi.r0
 have hlx:=hla.out x (List.mem_of_getElem? hxa.out)
 unfold Wh.lim at hlx
 have hS:=hdi.step hla.out hxa.out hn2
 have hy:=hS.1
 have t1:Int.tdiv (r*10000+x) n=(r*10000+x) / n:=Int.tdiv_eq_ediv_of_nonneg hy.1
 have t2:Int.tmod (r*10000+x) n=(r*10000+x) % n:=Int.tmod_eq_emod_of_nonneg hy.1
 have hpl:=hdi.len
 have hqk:q[j]?=some q[j]:=List.getElem?_eq_getElem (by omega)
 have hc0:=aF.cellAt hpl.symm hown hqk
 have hf0:wr.frozen? ⟨w3.heap.size,j,none⟩=false:=eS hpl hown j
 have hO:=uh (aF.set (j:=j) hpl.symm hown ((r*10000+x) / n) rfl)
 have hS2:=uh hS.2
 have hbs2:=uh hbr
 have f2:=c1.c1
 have hzq:w3.heap.size<wr.heap.size:=World.block_lt_of_cell? wr _ hc0
 have hdb:-1000000000000≤(r*10000+x) / n∧(r*10000+x) / n≤10000000000000000:=by
  have h1:=Int.ediv_nonneg hy.1 (show 0≤n by omega)
  have h2:=Int.ediv_le_self n hy.1
  omega
 have hmb:0≤(r*10000+x) % n∧(r*10000+x) % n<n:=⟨Int.emod_nonneg _ (by omega),Int.emod_lt_of_pos _ (by omega)⟩
 generalize q[j]=qj at *
 generalize (r*10000+x) / n=yq at *
 generalize (r*10000+x) % n=yr at *
 clear hS hdi hpl hqk hown c1 c2 hxa
 go_wp2
 go_roundw
 case rel=>exact ⟨j,_,_,by omega,by go_num,by go_num,hO.out.1,hS2.out,hbs2.out.setCell (ul _) _⟩
 case measure=>first | (simp [intOf];done) | (simp [intOf];omega)
theorem eu (l:List Int) (v:Value) (i:Nat) (w:World) (base:Nat) (hown:aF w base v l) :
  Calls Tryz.prog 134 #[v,.int .i64 i] w fun e w'=>e=.returned (.int .i64 (Wh.nth l i))∧w=w':=by
 obtain ⟨a,cap,rfl,hm,hv⟩:=hown.seen
 by_cases h:i<l.length
 ·obtain ⟨g,x,rfl,hg,hx,hcell⟩:=hv i h
  have hn:=uh (Wh.cX hx.out)
  clear hv hm hown hx
  go_enter Tryz.func134,Tryz.ntmps134
  go_wp2
  go_ret
  exact ⟨by rw [hn.out] <;> rfl,rfl⟩
 have hn:=uh (Wh.cW (l:=l) (i:=i) (by omega))
 clear hv hm hown
 go_enter Tryz.func134,Tryz.ntmps134
 go_wp2
 go_ret
 exact ⟨by rw [hn.out] <;> rfl,rfl⟩
theorem oW (xs ys:List Int) (va vb:Value) (w:World) (ba bb:Nat) (hoa:aF w ba va xs) (hob:aF w bb vb ys) (hla:Wh.bG xs) (hlb:Wh.bG ys) (hl1:xs.length≤100000) (hl2:ys.length≤100000) :
  Calls Tryz.prog 144 #[va,vb] w fun e w'=>e=.returned (.int .i64 (Wh.sg3 (Wh.val xs) (Wh.val ys)))∧Below w.heap.size w w':=by
 have PA:=fun (i:Nat) W h=>eu xs va i W ba h
 have PB:=fun (i:Nat) W h=>eu ys vb i W bb h
 have PM:=fun W=>du (xs.length:Int) (ys.length:Int) W
 obtain ⟨L,hL⟩:∃ L:Nat,max (xs.length:Int) (ys.length:Int)=L:=⟨max xs.length ys.length,by omega⟩
 have hx1:xs.length≤L:=by omega
 have hy1:ys.length≤L:=by omega
 have hLb:L≤100000:=by omega
 rw [hL] at PM
 have PM:=uh PM
 have PA:=uh PA
 have PB:=uh PB
 obtain ⟨aa,capa,rfl,hma,hva⟩:=hoa.view
 obtain ⟨ab,capb,rfl,hmb,hvb⟩:=hob.view
 have hoa:=uh hoa
 have hob:=uh hob
 have hla:=uh hla
 have hlb:=uh hlb
 clear hma hmb hva hvb hL
 go_enter Tryz.func144,Tryz.ntmps144
 go_wp2_with (go_at_call 65;(with_reducible refine (PM.out _).mono ?_);rintro e w1 ⟨rfl,rfl⟩)
 go_loopw [5,6,7,24,28] (fun vi _ _ _ _ wr=>∃ k:Nat,k≤L∧vi=.int .i64 ((k:Int) - 1)∧(∀ q:Nat,k≤q→q<L→Wh.nth xs q=Wh.nth ys q)∧Below w.heap.size w wr) (fun vi _ _ _ _ _=>(intOf vi+1).toNat)
 case atStart=>exact ⟨L,ul _,rfl,fun q h1 h2=>by omega,uk _ _⟩
 case round=>
 obtain ⟨k,hk,rfl,heq,hbr⟩:=hrel
 have heq:=uh heq
 cases k with
 | zero=>
  have hz:Hid (Wh.sg3 (Wh.val xs) (Wh.val ys)=0):=uh (Wh.cmp_eq hx1 hy1 fun q h=>heq.out q (Nat.zero_le _) h)
  go_wp2
  go_ret
  exact ⟨by rw [hz.out] <;> rfl,hbr⟩
 | succ j=>
 have QA:=PA.out j
 have QB:=PB.out j
 have hnx:=uh (rfl:Wh.nth xs j=Wh.nth xs j)
 obtain ⟨x,hx⟩:∃ x,Hid (Wh.nth xs j=x):=⟨_,uh rfl⟩
 obtain ⟨y,hy⟩:∃ y,Hid (Wh.nth ys j=y):=⟨_,uh rfl⟩
 rw [hx.out] at QA
 rw [hy.out] at QB
 have QA:=uh QA
 have QB:=uh QB
 clear hnx
 by_cases hxy:x=y
 ·subst hxy
  have heq2:Hid (∀ q:Nat,j≤q→q<L→Wh.nth xs q=Wh.nth ys q):=uh fun q h1 h2=>by
   by_cases hq:q=j
   ·subst hq;rw [hx.out,hy.out]
   exact heq.out q (by omega) h2
  go_wp2_with (go_at_call 134;first
   | ((with_reducible refine (QA.out _ (hoa.out.below hbr)).mono ?_);rintro e w5 ⟨rfl,rfl⟩)
   | ((with_reducible refine (QB.out _ (hob.out.below hbr)).mono ?_);rintro e w6 ⟨rfl,rfl⟩))
  go_roundw
  case rel=>exact ⟨j,by omega,by go_num,heq2.out,hbr⟩
  case measure=>first | (simp [intOf];done) | (simp [intOf];omega)
 by_cases hlt:x<y
 ·have hz:Hid (Wh.sg3 (Wh.val xs) (Wh.val ys)=-1):=uh (Wh.qE hla.out hlb.out hx1 hy1 (i:=j) (by omega) (fun q h1 h2=>heq.out q (by omega) h2) (by rw [hx.out,hy.out];exact hlt))
  go_wp2_with (go_at_call 134;first
   | ((with_reducible refine (QA.out _ (hoa.out.below hbr)).mono ?_);rintro e w5 ⟨rfl,rfl⟩)
   | ((with_reducible refine (QB.out _ (hob.out.below hbr)).mono ?_);rintro e w6 ⟨rfl,rfl⟩))
  go_ret
  exact ⟨by rw [hz.out] <;> rfl,hbr⟩
 have hz:Hid (Wh.sg3 (Wh.val xs) (Wh.val ys)=1):=uh (Wh.qD hla.out hlb.out hx1 hy1 (i:=j) (by omega) (fun q h1 h2=>heq.out q (by omega) h2) (by rw [hx.out,hy.out];omega))
 have hlt2:y<x:=by omega
 go_wp2_with (go_at_call 134;first
  | ((with_reducible refine (QA.out _ (hoa.out.below hbr)).mono ?_);rintro e w5 ⟨rfl,rfl⟩)
  | ((with_reducible refine (QB.out _ (hob.out.below hbr)).mono ?_);rintro e w6 ⟨rfl,rfl⟩))
 go_ret
 exact ⟨by rw [hz.out] <;> rfl,hbr⟩
end
end Go.Proofs.YtgfkcoablfjbcaaGreatDoor
