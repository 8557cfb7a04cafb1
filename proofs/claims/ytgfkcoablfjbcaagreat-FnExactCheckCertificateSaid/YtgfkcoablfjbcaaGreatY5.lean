/-
  Joined texts: contracts and plain lemmas.
-/
import Derived.Test.YtgfkcoablfjbcaaGreatY1
import Derived.Test.YtgfkcoablfjbcaaGreatY4
set_option linter.unusedSimpArgs false
set_option linter.unusedVariables false
set_option maxRecDepth 100000
set_option maxHeartbeats 8000000
namespace Go.Proofs.YtgfkcoablfjbcaaGreat
section
open Go.RowKit
theorem iG (xs ys:List Int) (s:Int) (va vb:Value) (w:World) (ba bb:Nat) (hs:s=1∨s=-1) (hoa:aF w ba va xs) (hob:aF w bb vb ys) (hla:Wh.bM xs) (hlb:Wh.bM ys) (hnn:0≤Wh.val xs+s*Wh.val ys) (hl1:xs.length≤100000) (hl2:ys.length≤100000) :
  Calls Tryz.prog 174 #[va,vb,.int .i64 s] w fun e w'=>∃ v,e=.returned v∧iz w' w.heap.size v (Wh.val xs+s*Wh.val ys) (xs.length+ys.length+1)∧Below w.heap.size w w':=by
 have PA:=fun (i:Nat) W h=>fL xs va i W ba h
 have PB:=fun (i:Nat) W h=>fL ys vb i W bb h
 have PA:=ws PA
 have PB:=ws PB
 obtain ⟨aa,capa,rfl,hma,hva⟩:=hoa.view
 obtain ⟨ab,capb,rfl,hmb,hvb⟩:=hob.view
 have hoa:=ws hoa
 have hob:=ws hob
 have hla:=ws hla
 have hlb:=ws hlb
 have hnn:=ws hnn
 clear hma hmb hva hvb
 obtain ⟨L,hL1,hL2,hL3⟩:∃ L:Nat,xs.length≤L∧ys.length≤L∧L≤xs.length+ys.length∧(xs.length=L∨ys.length=L):=⟨max xs.length ys.length,by omega,by omega,by omega⟩
 go_enter Tryz.func174,Tryz.ntmps174
 go_wp2
 go_loopw [7,8,9,10,38,43] (fun vo vc vi _ _ _ wr=>∃ (i:Nat) (o:List Int) (c:Int),i≤L+1∧(L<i→c=0)∧vi=.int .i64 i∧vc=.int .i64 c∧aF wr w.heap.size vo o∧Wh.eW xs ys s i o c∧Below w.heap.size w wr) (fun _ _ vi _ _ _ _=>L+2 - (intOf vi).toNat)
 case atStart=>exact ⟨0,[],0,by omega,fun h=>by omega,rfl,rfl,aF.nil _ _,Wh.eW.start xs ys s,ww _ _⟩
 case round=>
 obtain ⟨i,o,c,hi,hic,rfl,rfl,hown,hai,hbr⟩:=hrel
 have hrg:=hai.rng hs hla.out hlb.out
 have hol:=hai.len
 have hzr:=hbr.size
 have QA:=PA.out i
 have QB:=PB.out i
 have hly:=Wh.ig hlb.out i
 unfold Wh.lim at hly
 have hstep:=ws fun x c' h1 h2 h3 h4=>hai.step (x:=x) (c':=c') h1 h2 h3 h4
 have hsx:-9999≤s*Wh.nth ys i∧s*Wh.nth ys i≤9999:=by rcases hs with rfl | rfl <;> omega
 have hcar:=ws fun h1 h2 h3=>hai.carry hs h1 h2 hnn.out h3
 have hfin:Hid (xs.length≤i→ys.length≤i→c=0→Wh.val xs+s*Wh.val ys=Wh.val o):=ws fun h1 h2 h3=>(hai.all h1 h2).symm.trans (by rw [h3,Int.mul_zero,Int.add_zero])
 have hls:=ws hai.ls
 have hown:=ws hown
 clear hai
 have hnx:=Wh.cZ (l:=xs) (i:=i)
 have hny:=Wh.cZ (l:=ys) (i:=i)
 have hnx:=ws hnx
 have hny:=ws hny
 obtain ⟨x,hx⟩:∃ x,Wh.nth xs i=x:=⟨_,rfl⟩
 obtain ⟨y,hy⟩:∃ y,Wh.nth ys i=y:=⟨_,rfl⟩
 rw [hx] at QA hrg hstep hnx
 rw [hy] at QB hrg hstep hsx hly hny
 clear hx hy
 have QA:=ws QA
 have QB:=ws QB
 generalize hsb:s*y=sb at *
 by_cases ha:i<xs.length
 ·have hiL:i<L:=by omega
  clear hcar hfin hnx hny
  by_cases hx0:x+sb+c<0
  ·skip
   have hS:=hstep.out (x+sb+c+10000) (-1) ⟨by omega,by omega⟩ (by omega) (by intro h1;first | omega | (rcases hs with h | h <;> omega)) (by intro h1;first | omega | (rcases hs with h | h <;> omega))
   have hS:=ws hS
   clear hstep
   go_wp2_with (first
    | (go_at_call 164;first
     | ((with_reducible refine (QA.out _ (hoa.out.below hbr)).mono ?_);rintro e w5 ⟨rfl,rfl⟩)
     | ((with_reducible refine (QB.out _ (hob.out.below hbr)).mono ?_);rintro e w6 ⟨rfl,rfl⟩))
    | (at_builtin;refine ch (W:=wr) w.heap.size (x+sb+c+10000) _ _ rfl (.tmp 48) (.tmp 50) rfl rfl rfl hown.out (ww _ _) (by omega) (by omega) ?_;rintro v6 w6 hown6 hb6))
   go_roundw
   case rel=>exact ⟨i+1,_,_,by omega,fun h=>by first | rfl | omega,by go_num,by go_num,hown6,hS.out,hbr.trans hb6⟩
   case measure=>simp [intOf];omega
  by_cases hx1:10000≤x+sb+c
  ·skip
   have hS:=hstep.out (x+sb+c - 10000) (1) ⟨by omega,by omega⟩ (by omega) (by intro h1;first | omega | (rcases hs with h | h <;> omega)) (by intro h1;first | omega | (rcases hs with h | h <;> omega))
   have hS:=ws hS
   clear hstep
   go_wp2_with (first
    | (go_at_call 164;first
     | ((with_reducible refine (QA.out _ (hoa.out.below hbr)).mono ?_);rintro e w5 ⟨rfl,rfl⟩)
     | ((with_reducible refine (QB.out _ (hob.out.below hbr)).mono ?_);rintro e w6 ⟨rfl,rfl⟩))
    | (at_builtin;refine ch (W:=wr) w.heap.size (x+sb+c - 10000) _ _ rfl (.tmp 48) (.tmp 50) rfl rfl rfl hown.out (ww _ _) (by omega) (by omega) ?_;rintro v6 w6 hown6 hb6))
   go_roundw
   case rel=>exact ⟨i+1,_,_,by omega,fun h=>by first | rfl | omega,by go_num,by go_num,hown6,hS.out,hbr.trans hb6⟩
   case measure=>simp [intOf];omega
  skip
  have hS:=hstep.out (x+sb+c) (0) ⟨by omega,by omega⟩ (by omega) (by intro h1;first | omega | (rcases hs with h | h <;> omega)) (by intro h1;first | omega | (rcases hs with h | h <;> omega))
  have hS:=ws hS
  clear hstep
  go_wp2_with (first
   | (go_at_call 164;first
    | ((with_reducible refine (QA.out _ (hoa.out.below hbr)).mono ?_);rintro e w5 ⟨rfl,rfl⟩)
    | ((with_reducible refine (QB.out _ (hob.out.below hbr)).mono ?_);rintro e w6 ⟨rfl,rfl⟩))
   | (at_builtin;refine ch (W:=wr) w.heap.size (x+sb+c) _ _ rfl (.tmp 48) (.tmp 50) rfl rfl rfl hown.out (ww _ _) (by omega) (by omega) ?_;rintro v6 w6 hown6 hb6))
  go_roundw
  case rel=>exact ⟨i+1,_,_,by omega,fun h=>by first | rfl | omega,by go_num,by go_num,hown6,hS.out,hbr.trans hb6⟩
  case measure=>simp [intOf];omega
 by_cases hb:i<ys.length
 ·have hiL:i<L:=by omega
  clear hcar hfin hnx hny
  by_cases hx0:x+sb+c<0
  ·skip
   have hS:=hstep.out (x+sb+c+10000) (-1) ⟨by omega,by omega⟩ (by omega) (by intro h1;first | omega | (rcases hs with h | h <;> omega)) (by intro h1;first | omega | (rcases hs with h | h <;> omega))
   have hS:=ws hS
   clear hstep
   go_wp2_with (first
    | (go_at_call 164;first
     | ((with_reducible refine (QA.out _ (hoa.out.below hbr)).mono ?_);rintro e w5 ⟨rfl,rfl⟩)
     | ((with_reducible refine (QB.out _ (hob.out.below hbr)).mono ?_);rintro e w6 ⟨rfl,rfl⟩))
    | (at_builtin;refine ch (W:=wr) w.heap.size (x+sb+c+10000) _ _ rfl (.tmp 48) (.tmp 50) rfl rfl rfl hown.out (ww _ _) (by omega) (by omega) ?_;rintro v6 w6 hown6 hb6))
   go_roundw
   case rel=>exact ⟨i+1,_,_,by omega,fun h=>by first | rfl | omega,by go_num,by go_num,hown6,hS.out,hbr.trans hb6⟩
   case measure=>simp [intOf];omega
  by_cases hx1:10000≤x+sb+c
  ·skip
   have hS:=hstep.out (x+sb+c - 10000) (1) ⟨by omega,by omega⟩ (by omega) (by intro h1;first | omega | (rcases hs with h | h <;> omega)) (by intro h1;first | omega | (rcases hs with h | h <;> omega))
   have hS:=ws hS
   clear hstep
   go_wp2_with (first
    | (go_at_call 164;first
     | ((with_reducible refine (QA.out _ (hoa.out.below hbr)).mono ?_);rintro e w5 ⟨rfl,rfl⟩)
     | ((with_reducible refine (QB.out _ (hob.out.below hbr)).mono ?_);rintro e w6 ⟨rfl,rfl⟩))
    | (at_builtin;refine ch (W:=wr) w.heap.size (x+sb+c - 10000) _ _ rfl (.tmp 48) (.tmp 50) rfl rfl rfl hown.out (ww _ _) (by omega) (by omega) ?_;rintro v6 w6 hown6 hb6))
   go_roundw
   case rel=>exact ⟨i+1,_,_,by omega,fun h=>by first | rfl | omega,by go_num,by go_num,hown6,hS.out,hbr.trans hb6⟩
   case measure=>simp [intOf];omega
  skip
  have hS:=hstep.out (x+sb+c) (0) ⟨by omega,by omega⟩ (by omega) (by intro h1;first | omega | (rcases hs with h | h <;> omega)) (by intro h1;first | omega | (rcases hs with h | h <;> omega))
  have hS:=ws hS
  clear hstep
  go_wp2_with (first
   | (go_at_call 164;first
    | ((with_reducible refine (QA.out _ (hoa.out.below hbr)).mono ?_);rintro e w5 ⟨rfl,rfl⟩)
    | ((with_reducible refine (QB.out _ (hob.out.below hbr)).mono ?_);rintro e w6 ⟨rfl,rfl⟩))
   | (at_builtin;refine ch (W:=wr) w.heap.size (x+sb+c) _ _ rfl (.tmp 48) (.tmp 50) rfl rfl rfl hown.out (ww _ _) (by omega) (by omega) ?_;rintro v6 w6 hown6 hb6))
  go_roundw
  case rel=>exact ⟨i+1,_,_,by omega,fun h=>by first | rfl | omega,by go_num,by go_num,hown6,hS.out,hbr.trans hb6⟩
  case measure=>simp [intOf];omega
 by_cases hc0:c=0
 ·subst hc0
  have hv:=hfin.out (by omega) (by omega) rfl
  have hres:Hid (∀ vo W b,aF W b vo o→iz W b vo (Wh.val xs+s*Wh.val ys) (xs.length+ys.length+1)):=ws fun vo W b h=>⟨o,h,hls.out,hv.symm,by omega⟩
  clear hstep hcar hfin hnx hny hv
  go_wp2
  go_ret
  exact ⟨_,rfl,hres.out _ _ _ hown.out,hbr⟩
 have hc1:=hcar.out (by omega) (by omega) hc0
 have hiL:i≤L:=by
  by_cases h:L<i
  ·exact absurd (hic h) hc0
  omega
 have hx0_:=hnx.out (by omega)
 have hy0_:=hny.out (by omega)
 have hs0_:sb=0:=by rw [←hsb,hy0_,Int.mul_zero]
 clear hcar hfin hnx hny
 by_cases hx0:x+sb+c<0
 ·skip
  exfalso;omega
 by_cases hx1:10000≤x+sb+c
 ·skip
  exfalso;omega
 skip
 have hS:=hstep.out (1) (0) ⟨by omega,by omega⟩ (by omega) (by intro h1;first | omega | (rcases hs with h | h <;> omega)) (by intro h1;first | omega | (rcases hs with h | h <;> omega))
 have hS:=ws hS
 clear hstep
 go_wp2_with (first
  | (go_at_call 164;first
   | ((with_reducible refine (QA.out _ (hoa.out.below hbr)).mono ?_);rintro e w5 ⟨rfl,rfl⟩)
   | ((with_reducible refine (QB.out _ (hob.out.below hbr)).mono ?_);rintro e w6 ⟨rfl,rfl⟩))
  | (at_builtin;refine ch (W:=wr) w.heap.size (1) _ _ rfl (.tmp 48) (.tmp 50) rfl rfl rfl hown.out (ww _ _) (by omega) (by omega) ?_;rintro v6 w6 hown6 hb6))
 go_roundw
 case rel=>exact ⟨i+1,_,_,by omega,fun h=>by first | rfl | omega,by go_num,by go_num,hown6,hS.out,hbr.trans hb6⟩
 case measure=>simp [intOf];omega
theorem fa (z y:Int) (n:Nat) (neg:Bool) (v:Value) (w:World) (base:Nat) (ho:iz w base v y n) (hn:n≤1000000) (hz:Wh.sgn neg y=z) :
  Calls Tryz.prog 163 #[.bool neg,v] w fun e w'=>∃ sl,e=.returned (.agg #[.bool (decide (z<0)),sl])∧ag w' w.heap.size sl z∧Below w.heap.size w w':=by
 obtain ⟨o,h1,h2,h3,h4⟩:=ho
 exact fb z neg o v w base h1 h2 (by omega) (by rw [h3];exact hz)
theorem iV (a b:Int) (va vb:Value) (w:World) (ba bb:Nat) (hoa:ag w ba va a) (hob:ag w bb vb b) (hl1:(Wh.dig a.natAbs).length≤10000) (hl2:(Wh.dig b.natAbs).length≤10000) :
  Calls Tryz.prog 155 #[.agg #[.bool (decide (a<0)),va],.agg #[.bool (decide (b<0)),vb]] w fun e w'=>∃ sl,e=.returned (.agg #[.bool (decide (a+b<0)),sl])∧ag w' w.heap.size sl (a+b)∧Below w.heap.size w w':=by
 obtain ⟨aa,capa,rfl,-,-⟩:=aF.view hoa
 obtain ⟨ab,capb,rfl,-,-⟩:=aF.view hob
 have PA:=fun s hs h0 W h1 h2=>iG (Wh.dig a.natAbs) (Wh.dig b.natAbs) s (.slice aa (Wh.dig a.natAbs).length capa) (.slice ab (Wh.dig b.natAbs).length capb) W ba bb hs h1 h2 (Wh.am _) (Wh.am _) h0 (by omega) (by omega)
 rw [Wh.bO,Wh.bO] at PA
 have PA':=fun s hs h0 W h1 h2=>iG (Wh.dig b.natAbs) (Wh.dig a.natAbs) s (.slice ab (Wh.dig b.natAbs).length capb) (.slice aa (Wh.dig a.natAbs).length capa) W bb ba hs h1 h2 (Wh.am _) (Wh.am _) h0 (by omega) (by omega)
 rw [Wh.bO,Wh.bO] at PA'
 have PO:=fun W h1 h2=>pm (Wh.dig a.natAbs) (Wh.dig b.natAbs) (.slice aa (Wh.dig a.natAbs).length capa) (.slice ab (Wh.dig b.natAbs).length capb) W ba bb h1 h2 (Wh.am _) (Wh.am _) (by omega) (by omega)
 rw [Wh.bO,Wh.bO] at PO
 have PT:=fun s y (h:Wh.sgn s y=a+b) W v base ho=>fa (a+b) y ((Wh.dig a.natAbs).length+(Wh.dig b.natAbs).length+1) s v W base ho (by omega) h
 have PT':=fun s y (h:Wh.sgn s y=a+b) W v base ho=>fa (a+b) y ((Wh.dig b.natAbs).length+(Wh.dig a.natAbs).length+1) s v W base ho (by omega) h
 have hOA:Hid (∀ W,Below w.heap.size w W→aF W ba (.slice aa (Wh.dig a.natAbs).length capa) (Wh.dig a.natAbs)):=ws fun W h=>aF.below hoa h
 have hOB:Hid (∀ W,Below w.heap.size w W→aF W bb (.slice ab (Wh.dig b.natAbs).length capb) (Wh.dig b.natAbs)):=ws fun W h=>aF.below hob h
 obtain ⟨s1,hs1⟩:∃ s,decide (a<0)=s:=⟨_,rfl⟩
 obtain ⟨s2,hs2⟩:∃ s,decide (b<0)=s:=⟨_,rfl⟩
 clear hoa hob
 by_cases hss:s1=s2
 ·subst hss
  have PT:=ws (PT s1 _ (Wh.add_same hs1 hs2))
  have PA:=ws (PA 1 (Or.inl rfl) (by omega))
  rw [hs1,hs2]
  clear hs1 hs2 PA' PT' PO
  generalize (a.natAbs:Int)+1*(b.natAbs:Int)=y at *
  generalize a+b=z at *
  generalize Wh.dig a.natAbs=xs at *
  generalize Wh.dig b.natAbs=ys at *
  generalize xs.length=l1 at *
  generalize ys.length=l2 at *
  generalize decide (z<0)=s at *
  have b1:=((ah.new w (.bool s1) (.slice aa l1 capa) 136).alloc (.cells #[.bool s1,.slice ab l2 capb] 136)).alloc (.cells #[.bool false,.slice none 0 0] 136)
  have b2:=(ah.new2 w (.cells #[.bool s1,.slice aa l1 capa] 136) (.bool s1) (.slice ab l2 capb) 136).alloc (.cells #[.bool false,.slice none 0 0] 136)
  have b3:=ah.new2 (w.alloc (.cells #[.bool s1,.slice aa l1 capa] 136)) (.cells #[.bool s1,.slice ab l2 capb] 136) (.bool false) (.slice none 0 0) 136
  rw [wt] at b3
  have hB:=(((ww w.heap.size w).alloc (xA _) (.cells #[.bool s1,.slice aa l1 capa] 136)).alloc (by rw [wt];omega) (.cells #[.bool s1,.slice ab l2 capb] 136)).alloc (by rw [wt,wt];omega) (.cells #[.bool false,.slice none 0 0] 136)
  generalize hw3:((w.alloc (.cells #[.bool s1,.slice aa l1 capa] 136)).alloc (.cells #[.bool s1,.slice ab l2 capb] 136)).alloc (.cells #[.bool false,.slice none 0 0] 136)=w3 at *
  have n1:=b1
  have n2:=b2
  have n3:=b3
  have Bn:=hB
  clear b1 b2 b3
  have e1:=n1.c0
  have e2:=n1.c1
  have e3:=n2.c0
  have e4:=n2.c1
  go_enter Tryz.func155,Tryz.ntmps155
  go_wp2
  go_region_held3 (fun W=>W.cell? ⟨w.heap.size,0,none⟩=some (.bool s1)∧W.cell? ⟨w.heap.size,1,none⟩=some (.slice aa l1 capa)∧W.cell? ⟨w.heap.size+1,0,none⟩=some (.bool s1)∧W.cell? ⟨w.heap.size+1,1,none⟩=some (.slice ab l2 capb)) (first | (refine ⟨?_,?_,?_,?_⟩ <;> (first | (with_reducible exact aE (by assumption) (by assumption)) | (with_reducible exact Gr.aw (by assumption)) | (with_reducible refine Gr.bQ (by assumption) ?_;(intro hh_;(try simp only [wt,aP,World.heap_drewN,aJ] at hh_);omega)) | (with_reducible refine Gr.cr (by assumption) ?_ ?_ <;> (intro hh_;(try simp only [wt,aP,World.heap_drewN,aJ] at hh_);omega)) | exact aE (by assumption) (by assumption) | (with_reducible exact ar (by assumption) (by assumption) (by assumption)))) | (go_split_ands;(refine ⟨?_,?_,?_,?_⟩ <;> (first | (with_reducible exact aE (by assumption) (by assumption)) | (with_reducible exact Gr.aw (by assumption)) | (with_reducible refine Gr.bQ (by assumption) ?_;(intro hh_;(try simp only [wt,aP,World.heap_drewN,aJ] at hh_);omega)) | (with_reducible refine Gr.cr (by assumption) ?_ ?_ <;> (intro hh_;(try simp only [wt,aP,World.heap_drewN,aJ] at hh_);omega)) | exact aE (by assumption) (by assumption) | (with_reducible exact ar (by assumption) (by assumption) (by assumption))))) | go_keep) ((first
   | (go_at_call 174;(with_reducible refine (PA.out _ (hOA.out _ Bn.drew) (hOB.out _ Bn.drew)).mono ?_);rintro e w4 ⟨v4,rfl,ho4,hb4⟩;(have B4:=Bn.drew.trans (hb4.mono Bn.size));(have r4:=n3.drew.keep hb4);(have x1_:=aE hb4 (aX e1));(have x2_:=aE hb4 (aX e2));(have x3_:=aE hb4 (aX e3));(have x4_:=aE hb4 (aX e4));(have z4:w3.heap.size≤w4.heap.size:=hb4.size))
   | (go_at_call 163;(with_reducible refine (PT.out _ _ _ ho4).mono ?_);rintro e w5 ⟨vc,rfl,hoc,hbc⟩;obtain ⟨ac,capc,rfl,hmc,hvc⟩:=aF.view hoc;(have B5:=B4.trans (hbc.mono B4.size));(have r5:=r4.keep hbc);(have c0:=r5.c0);(have c1:=r5.c1);(have g0:=r5.f0);(have g1:=r5.f1);(have y1_:=aE hbc x1_);(have y2_:=aE hbc x2_);(have y3_:=aE hbc x3_);(have y4_:=aE hbc x4_);(clear hvc hmc))
   | fail "ARMS"))
  all_goals
   have hr:=cE (w:=w) (w.heap.size+1+1) _ (.bool s) (by omega) (Nat.lt_of_lt_of_le n3.size z4) hoc B5
   generalize (Wh.dig z.natAbs).length=n2_ at *
   go_wp2
   exact bodyPost_ret (v:=.agg #[.bool s,.slice ac n2_ capc]) (by simp [results,Tryz.results155,go_sem, *]) rfl (⟨_,rfl,hr.1,hr.2⟩)
 have hx:(s1=false∧s2=true)∨(s1=true∧s2=false):=by cases s1 <;> cases s2 <;> simp_all
 clear hss
 rcases hx with ⟨rfl,rfl⟩ | ⟨rfl,rfl⟩
 ·skip
  have hd:=Wh.dZ (a:=a) (b:=b) hs1 hs2
  have hd':=Wh.dZ (a:=b) (b:=a) hs2 hs1
  rw [Int.add_comm b a] at hd'
  rw [hs1,hs2]
  clear hs1 hs2
  by_cases hlt:a.natAbs<b.natAbs
  ·skip
   have PT:=ws (PT' true _ hd')
   have PA:=ws (PA' (-1) (Or.inr rfl) (by omega))
   rw [Wh.fX (by omega)] at PO
   have PO:=ws PO
   clear hlt hd hd' PT' PA'
   generalize (b.natAbs:Int)+-1*(a.natAbs:Int)=y at *
   generalize a+b=z at *
   generalize Wh.dig a.natAbs=xs at *
   generalize Wh.dig b.natAbs=ys at *
   generalize xs.length=l1 at *
   generalize ys.length=l2 at *
   generalize decide (z<0)=s at *
   have b1:=((ah.new w (.bool false) (.slice aa l1 capa) 136).alloc (.cells #[.bool true,.slice ab l2 capb] 136)).alloc (.cells #[.bool false,.slice none 0 0] 136)
   have b2:=(ah.new2 w (.cells #[.bool false,.slice aa l1 capa] 136) (.bool true) (.slice ab l2 capb) 136).alloc (.cells #[.bool false,.slice none 0 0] 136)
   have b3:=ah.new2 (w.alloc (.cells #[.bool false,.slice aa l1 capa] 136)) (.cells #[.bool true,.slice ab l2 capb] 136) (.bool false) (.slice none 0 0) 136
   rw [wt] at b3
   have hB:=(((ww w.heap.size w).alloc (xA _) (.cells #[.bool false,.slice aa l1 capa] 136)).alloc (by rw [wt];omega) (.cells #[.bool true,.slice ab l2 capb] 136)).alloc (by rw [wt,wt];omega) (.cells #[.bool false,.slice none 0 0] 136)
   generalize hw3:((w.alloc (.cells #[.bool false,.slice aa l1 capa] 136)).alloc (.cells #[.bool true,.slice ab l2 capb] 136)).alloc (.cells #[.bool false,.slice none 0 0] 136)=w3 at *
   have i1:=b1.c0
   have i2:=b1.c1
   have i3:=b2.c0
   have i4:=b2.c1
   go_enter Tryz.func155,Tryz.ntmps155
   go_wp2_with (go_at_call 175;(with_reducible refine (PO.out _ (hOA.out _ hB) (hOB.out _ hB)).mono ?_);rintro e wm ⟨rfl,hbm⟩;(have n1:=b1.keep hbm);(have n2:=b2.keep hbm);(have n3:=b3.keep hbm);(have Bn:=hB.trans (hbm.mono hB.size)))
   clear i1 i2 i3 i4 b1 b2 b3 hbm
   have e1:=n1.c0
   have e2:=n1.c1
   have e3:=n2.c0
   have e4:=n2.c1
   go_region_held3 (fun W=>W.cell? ⟨w.heap.size,0,none⟩=some (.bool false)∧W.cell? ⟨w.heap.size,1,none⟩=some (.slice aa l1 capa)∧W.cell? ⟨w.heap.size+1,0,none⟩=some (.bool true)∧W.cell? ⟨w.heap.size+1,1,none⟩=some (.slice ab l2 capb)) (first | (refine ⟨?_,?_,?_,?_⟩ <;> (first | (with_reducible exact aE (by assumption) (by assumption)) | (with_reducible exact Gr.aw (by assumption)) | (with_reducible refine Gr.bQ (by assumption) ?_;(intro hh_;(try simp only [wt,aP,World.heap_drewN,aJ] at hh_);omega)) | (with_reducible refine Gr.cr (by assumption) ?_ ?_ <;> (intro hh_;(try simp only [wt,aP,World.heap_drewN,aJ] at hh_);omega)) | exact aE (by assumption) (by assumption) | (with_reducible exact ar (by assumption) (by assumption) (by assumption)))) | (go_split_ands;(refine ⟨?_,?_,?_,?_⟩ <;> (first | (with_reducible exact aE (by assumption) (by assumption)) | (with_reducible exact Gr.aw (by assumption)) | (with_reducible refine Gr.bQ (by assumption) ?_;(intro hh_;(try simp only [wt,aP,World.heap_drewN,aJ] at hh_);omega)) | (with_reducible refine Gr.cr (by assumption) ?_ ?_ <;> (intro hh_;(try simp only [wt,aP,World.heap_drewN,aJ] at hh_);omega)) | exact aE (by assumption) (by assumption) | (with_reducible exact ar (by assumption) (by assumption) (by assumption))))) | go_keep) ((first
    | (go_at_call 174;(with_reducible refine (PA.out _ (hOB.out _ Bn.drew) (hOA.out _ Bn.drew)).mono ?_);rintro e w4 ⟨v4,rfl,ho4,hb4⟩;(have B4:=Bn.drew.trans (hb4.mono Bn.size));(have r4:=n3.drew.keep hb4);(have x1_:=aE hb4 (aX e1));(have x2_:=aE hb4 (aX e2));(have x3_:=aE hb4 (aX e3));(have x4_:=aE hb4 (aX e4));(have z4:wm.heap.size≤w4.heap.size:=hb4.size))
    | (go_at_call 163;(with_reducible refine (PT.out _ _ _ ho4).mono ?_);rintro e w5 ⟨vc,rfl,hoc,hbc⟩;obtain ⟨ac,capc,rfl,hmc,hvc⟩:=aF.view hoc;(have B5:=B4.trans (hbc.mono B4.size));(have r5:=r4.keep hbc);(have c0:=r5.c0);(have c1:=r5.c1);(have g0:=r5.f0);(have g1:=r5.f1);(have y1_:=aE hbc x1_);(have y2_:=aE hbc x2_);(have y3_:=aE hbc x3_);(have y4_:=aE hbc x4_);(clear hvc hmc))
    | fail "ARMS"))
   all_goals
    have hr:=cE (w:=w) (w.heap.size+1+1) _ (.bool s) (by omega) (Nat.lt_of_lt_of_le n3.size z4) hoc B5
    generalize (Wh.dig z.natAbs).length=n2_ at *
    go_wp2
    exact bodyPost_ret (v:=.agg #[.bool s,.slice ac n2_ capc]) (by simp [results,Tryz.results155,go_sem, *]) rfl (⟨_,rfl,hr.1,hr.2⟩)
  skip
  have PT:=ws (PT false _ hd)
  have PA:=ws (PA (-1) (Or.inr rfl) (by omega))
  have hr0:0≤Wh.sg3 (a.natAbs:Int) (b.natAbs:Int):=by unfold Wh.sg3;rw [if_neg (by omega)];split <;> omega
  generalize Wh.sg3 (a.natAbs:Int) (b.natAbs:Int)=rr at *
  have PO:=ws PO
  clear hlt hd hd' PT' PA'
  generalize (a.natAbs:Int)+-1*(b.natAbs:Int)=y at *
  generalize a+b=z at *
  generalize Wh.dig a.natAbs=xs at *
  generalize Wh.dig b.natAbs=ys at *
  generalize xs.length=l1 at *
  generalize ys.length=l2 at *
  generalize decide (z<0)=s at *
  have b1:=((ah.new w (.bool false) (.slice aa l1 capa) 136).alloc (.cells #[.bool true,.slice ab l2 capb] 136)).alloc (.cells #[.bool false,.slice none 0 0] 136)
  have b2:=(ah.new2 w (.cells #[.bool false,.slice aa l1 capa] 136) (.bool true) (.slice ab l2 capb) 136).alloc (.cells #[.bool false,.slice none 0 0] 136)
  have b3:=ah.new2 (w.alloc (.cells #[.bool false,.slice aa l1 capa] 136)) (.cells #[.bool true,.slice ab l2 capb] 136) (.bool false) (.slice none 0 0) 136
  rw [wt] at b3
  have hB:=(((ww w.heap.size w).alloc (xA _) (.cells #[.bool false,.slice aa l1 capa] 136)).alloc (by rw [wt];omega) (.cells #[.bool true,.slice ab l2 capb] 136)).alloc (by rw [wt,wt];omega) (.cells #[.bool false,.slice none 0 0] 136)
  generalize hw3:((w.alloc (.cells #[.bool false,.slice aa l1 capa] 136)).alloc (.cells #[.bool true,.slice ab l2 capb] 136)).alloc (.cells #[.bool false,.slice none 0 0] 136)=w3 at *
  have i1:=b1.c0
  have i2:=b1.c1
  have i3:=b2.c0
  have i4:=b2.c1
  go_enter Tryz.func155,Tryz.ntmps155
  go_wp2_with (go_at_call 175;(with_reducible refine (PO.out _ (hOA.out _ hB) (hOB.out _ hB)).mono ?_);rintro e wm ⟨rfl,hbm⟩;(have n1:=b1.keep hbm);(have n2:=b2.keep hbm);(have n3:=b3.keep hbm);(have Bn:=hB.trans (hbm.mono hB.size)))
  clear i1 i2 i3 i4 b1 b2 b3 hbm
  have e1:=n1.c0
  have e2:=n1.c1
  have e3:=n2.c0
  have e4:=n2.c1
  go_region_held3 (fun W=>W.cell? ⟨w.heap.size,0,none⟩=some (.bool false)∧W.cell? ⟨w.heap.size,1,none⟩=some (.slice aa l1 capa)∧W.cell? ⟨w.heap.size+1,0,none⟩=some (.bool true)∧W.cell? ⟨w.heap.size+1,1,none⟩=some (.slice ab l2 capb)) (first | (refine ⟨?_,?_,?_,?_⟩ <;> (first | (with_reducible exact aE (by assumption) (by assumption)) | (with_reducible exact Gr.aw (by assumption)) | (with_reducible refine Gr.bQ (by assumption) ?_;(intro hh_;(try simp only [wt,aP,World.heap_drewN,aJ] at hh_);omega)) | (with_reducible refine Gr.cr (by assumption) ?_ ?_ <;> (intro hh_;(try simp only [wt,aP,World.heap_drewN,aJ] at hh_);omega)) | exact aE (by assumption) (by assumption) | (with_reducible exact ar (by assumption) (by assumption) (by assumption)))) | (go_split_ands;(refine ⟨?_,?_,?_,?_⟩ <;> (first | (with_reducible exact aE (by assumption) (by assumption)) | (with_reducible exact Gr.aw (by assumption)) | (with_reducible refine Gr.bQ (by assumption) ?_;(intro hh_;(try simp only [wt,aP,World.heap_drewN,aJ] at hh_);omega)) | (with_reducible refine Gr.cr (by assumption) ?_ ?_ <;> (intro hh_;(try simp only [wt,aP,World.heap_drewN,aJ] at hh_);omega)) | exact aE (by assumption) (by assumption) | (with_reducible exact ar (by assumption) (by assumption) (by assumption))))) | go_keep) ((first
   | (go_at_call 174;(with_reducible refine (PA.out _ (hOA.out _ Bn.drew) (hOB.out _ Bn.drew)).mono ?_);rintro e w4 ⟨v4,rfl,ho4,hb4⟩;(have B4:=Bn.drew.trans (hb4.mono Bn.size));(have r4:=n3.drew.keep hb4);(have x1_:=aE hb4 (aX e1));(have x2_:=aE hb4 (aX e2));(have x3_:=aE hb4 (aX e3));(have x4_:=aE hb4 (aX e4));(have z4:wm.heap.size≤w4.heap.size:=hb4.size))
   | (go_at_call 163;(with_reducible refine (PT.out _ _ _ ho4).mono ?_);rintro e w5 ⟨vc,rfl,hoc,hbc⟩;obtain ⟨ac,capc,rfl,hmc,hvc⟩:=aF.view hoc;(have B5:=B4.trans (hbc.mono B4.size));(have r5:=r4.keep hbc);(have c0:=r5.c0);(have c1:=r5.c1);(have g0:=r5.f0);(have g1:=r5.f1);(have y1_:=aE hbc x1_);(have y2_:=aE hbc x2_);(have y3_:=aE hbc x3_);(have y4_:=aE hbc x4_);(clear hvc hmc))
   | fail "ARMS"))
  all_goals
   have hr:=cE (w:=w) (w.heap.size+1+1) _ (.bool s) (by omega) (Nat.lt_of_lt_of_le n3.size z4) hoc B5
   generalize (Wh.dig z.natAbs).length=n2_ at *
   go_wp2
   exact bodyPost_ret (v:=.agg #[.bool s,.slice ac n2_ capc]) (by simp [results,Tryz.results155,go_sem, *]) rfl (⟨_,rfl,hr.1,hr.2⟩)
 skip
 have hd:=Wh.dZ (a:=a) (b:=b) hs1 hs2
 have hd':=Wh.dZ (a:=b) (b:=a) hs2 hs1
 rw [Int.add_comm b a] at hd'
 rw [hs1,hs2]
 clear hs1 hs2
 by_cases hlt:a.natAbs<b.natAbs
 ·skip
  have PT:=ws (PT' false _ hd')
  have PA:=ws (PA' (-1) (Or.inr rfl) (by omega))
  rw [Wh.fX (by omega)] at PO
  have PO:=ws PO
  clear hlt hd hd' PT' PA'
  generalize (b.natAbs:Int)+-1*(a.natAbs:Int)=y at *
  generalize a+b=z at *
  generalize Wh.dig a.natAbs=xs at *
  generalize Wh.dig b.natAbs=ys at *
  generalize xs.length=l1 at *
  generalize ys.length=l2 at *
  generalize decide (z<0)=s at *
  have b1:=((ah.new w (.bool true) (.slice aa l1 capa) 136).alloc (.cells #[.bool false,.slice ab l2 capb] 136)).alloc (.cells #[.bool false,.slice none 0 0] 136)
  have b2:=(ah.new2 w (.cells #[.bool true,.slice aa l1 capa] 136) (.bool false) (.slice ab l2 capb) 136).alloc (.cells #[.bool false,.slice none 0 0] 136)
  have b3:=ah.new2 (w.alloc (.cells #[.bool true,.slice aa l1 capa] 136)) (.cells #[.bool false,.slice ab l2 capb] 136) (.bool false) (.slice none 0 0) 136
  rw [wt] at b3
  have hB:=(((ww w.heap.size w).alloc (xA _) (.cells #[.bool true,.slice aa l1 capa] 136)).alloc (by rw [wt];omega) (.cells #[.bool false,.slice ab l2 capb] 136)).alloc (by rw [wt,wt];omega) (.cells #[.bool false,.slice none 0 0] 136)
  generalize hw3:((w.alloc (.cells #[.bool true,.slice aa l1 capa] 136)).alloc (.cells #[.bool false,.slice ab l2 capb] 136)).alloc (.cells #[.bool false,.slice none 0 0] 136)=w3 at *
  have i1:=b1.c0
  have i2:=b1.c1
  have i3:=b2.c0
  have i4:=b2.c1
  go_enter Tryz.func155,Tryz.ntmps155
  go_wp2_with (go_at_call 175;(with_reducible refine (PO.out _ (hOA.out _ hB) (hOB.out _ hB)).mono ?_);rintro e wm ⟨rfl,hbm⟩;(have n1:=b1.keep hbm);(have n2:=b2.keep hbm);(have n3:=b3.keep hbm);(have Bn:=hB.trans (hbm.mono hB.size)))
  clear i1 i2 i3 i4 b1 b2 b3 hbm
  have e1:=n1.c0
  have e2:=n1.c1
  have e3:=n2.c0
  have e4:=n2.c1
  go_region_held3 (fun W=>W.cell? ⟨w.heap.size,0,none⟩=some (.bool true)∧W.cell? ⟨w.heap.size,1,none⟩=some (.slice aa l1 capa)∧W.cell? ⟨w.heap.size+1,0,none⟩=some (.bool false)∧W.cell? ⟨w.heap.size+1,1,none⟩=some (.slice ab l2 capb)) (first | (refine ⟨?_,?_,?_,?_⟩ <;> (first | (with_reducible exact aE (by assumption) (by assumption)) | (with_reducible exact Gr.aw (by assumption)) | (with_reducible refine Gr.bQ (by assumption) ?_;(intro hh_;(try simp only [wt,aP,World.heap_drewN,aJ] at hh_);omega)) | (with_reducible refine Gr.cr (by assumption) ?_ ?_ <;> (intro hh_;(try simp only [wt,aP,World.heap_drewN,aJ] at hh_);omega)) | exact aE (by assumption) (by assumption) | (with_reducible exact ar (by assumption) (by assumption) (by assumption)))) | (go_split_ands;(refine ⟨?_,?_,?_,?_⟩ <;> (first | (with_reducible exact aE (by assumption) (by assumption)) | (with_reducible exact Gr.aw (by assumption)) | (with_reducible refine Gr.bQ (by assumption) ?_;(intro hh_;(try simp only [wt,aP,World.heap_drewN,aJ] at hh_);omega)) | (with_reducible refine Gr.cr (by assumption) ?_ ?_ <;> (intro hh_;(try simp only [wt,aP,World.heap_drewN,aJ] at hh_);omega)) | exact aE (by assumption) (by assumption) | (with_reducible exact ar (by assumption) (by assumption) (by assumption))))) | go_keep) ((first
   | (go_at_call 174;(with_reducible refine (PA.out _ (hOB.out _ Bn.drew) (hOA.out _ Bn.drew)).mono ?_);rintro e w4 ⟨v4,rfl,ho4,hb4⟩;(have B4:=Bn.drew.trans (hb4.mono Bn.size));(have r4:=n3.drew.keep hb4);(have x1_:=aE hb4 (aX e1));(have x2_:=aE hb4 (aX e2));(have x3_:=aE hb4 (aX e3));(have x4_:=aE hb4 (aX e4));(have z4:wm.heap.size≤w4.heap.size:=hb4.size))
   | (go_at_call 163;(with_reducible refine (PT.out _ _ _ ho4).mono ?_);rintro e w5 ⟨vc,rfl,hoc,hbc⟩;obtain ⟨ac,capc,rfl,hmc,hvc⟩:=aF.view hoc;(have B5:=B4.trans (hbc.mono B4.size));(have r5:=r4.keep hbc);(have c0:=r5.c0);(have c1:=r5.c1);(have g0:=r5.f0);(have g1:=r5.f1);(have y1_:=aE hbc x1_);(have y2_:=aE hbc x2_);(have y3_:=aE hbc x3_);(have y4_:=aE hbc x4_);(clear hvc hmc))
   | fail "ARMS"))
  all_goals
   have hr:=cE (w:=w) (w.heap.size+1+1) _ (.bool s) (by omega) (Nat.lt_of_lt_of_le n3.size z4) hoc B5
   generalize (Wh.dig z.natAbs).length=n2_ at *
   go_wp2
   exact bodyPost_ret (v:=.agg #[.bool s,.slice ac n2_ capc]) (by simp [results,Tryz.results155,go_sem, *]) rfl (⟨_,rfl,hr.1,hr.2⟩)
 skip
 have PT:=ws (PT true _ hd)
 have PA:=ws (PA (-1) (Or.inr rfl) (by omega))
 have hr0:0≤Wh.sg3 (a.natAbs:Int) (b.natAbs:Int):=by unfold Wh.sg3;rw [if_neg (by omega)];split <;> omega
 generalize Wh.sg3 (a.natAbs:Int) (b.natAbs:Int)=rr at *
 have PO:=ws PO
 clear hlt hd hd' PT' PA'
 generalize (a.natAbs:Int)+-1*(b.natAbs:Int)=y at *
 generalize a+b=z at *
 generalize Wh.dig a.natAbs=xs at *
 generalize Wh.dig b.natAbs=ys at *
 generalize xs.length=l1 at *
 generalize ys.length=l2 at *
 generalize decide (z<0)=s at *
 have b1:=((ah.new w (.bool true) (.slice aa l1 capa) 136).alloc (.cells #[.bool false,.slice ab l2 capb] 136)).alloc (.cells #[.bool false,.slice none 0 0] 136)
 have b2:=(ah.new2 w (.cells #[.bool true,.slice aa l1 capa] 136) (.bool false) (.slice ab l2 capb) 136).alloc (.cells #[.bool false,.slice none 0 0] 136)
 have b3:=ah.new2 (w.alloc (.cells #[.bool true,.slice aa l1 capa] 136)) (.cells #[.bool false,.slice ab l2 capb] 136) (.bool false) (.slice none 0 0) 136
 rw [wt] at b3
 have hB:=(((ww w.heap.size w).alloc (xA _) (.cells #[.bool true,.slice aa l1 capa] 136)).alloc (by rw [wt];omega) (.cells #[.bool false,.slice ab l2 capb] 136)).alloc (by rw [wt,wt];omega) (.cells #[.bool false,.slice none 0 0] 136)
 generalize hw3:((w.alloc (.cells #[.bool true,.slice aa l1 capa] 136)).alloc (.cells #[.bool false,.slice ab l2 capb] 136)).alloc (.cells #[.bool false,.slice none 0 0] 136)=w3 at *
 have i1:=b1.c0
 have i2:=b1.c1
 have i3:=b2.c0
 have i4:=b2.c1
 go_enter Tryz.func155,Tryz.ntmps155
 go_wp2_with (go_at_call 175;(with_reducible refine (PO.out _ (hOA.out _ hB) (hOB.out _ hB)).mono ?_);rintro e wm ⟨rfl,hbm⟩;(have n1:=b1.keep hbm);(have n2:=b2.keep hbm);(have n3:=b3.keep hbm);(have Bn:=hB.trans (hbm.mono hB.size)))
 clear i1 i2 i3 i4 b1 b2 b3 hbm
 have e1:=n1.c0
 have e2:=n1.c1
 have e3:=n2.c0
 have e4:=n2.c1
 go_region_held3 (fun W=>W.cell? ⟨w.heap.size,0,none⟩=some (.bool true)∧W.cell? ⟨w.heap.size,1,none⟩=some (.slice aa l1 capa)∧W.cell? ⟨w.heap.size+1,0,none⟩=some (.bool false)∧W.cell? ⟨w.heap.size+1,1,none⟩=some (.slice ab l2 capb)) (first | (refine ⟨?_,?_,?_,?_⟩ <;> (first | (with_reducible exact aE (by assumption) (by assumption)) | (with_reducible exact Gr.aw (by assumption)) | (with_reducible refine Gr.bQ (by assumption) ?_;(intro hh_;(try simp only [wt,aP,World.heap_drewN,aJ] at hh_);omega)) | (with_reducible refine Gr.cr (by assumption) ?_ ?_ <;> (intro hh_;(try simp only [wt,aP,World.heap_drewN,aJ] at hh_);omega)) | exact aE (by assumption) (by assumption) | (with_reducible exact ar (by assumption) (by assumption) (by assumption)))) | (go_split_ands;(refine ⟨?_,?_,?_,?_⟩ <;> (first | (with_reducible exact aE (by assumption) (by assumption)) | (with_reducible exact Gr.aw (by assumption)) | (with_reducible refine Gr.bQ (by assumption) ?_;(intro hh_;(try simp only [wt,aP,World.heap_drewN,aJ] at hh_);omega)) | (with_reducible refine Gr.cr (by assumption) ?_ ?_ <;> (intro hh_;(try simp only [wt,aP,World.heap_drewN,aJ] at hh_);omega)) | exact aE (by assumption) (by assumption) | (with_reducible exact ar (by assumption) (by assumption) (by assumption))))) | go_keep) ((first
  | (go_at_call 174;(with_reducible refine (PA.out _ (hOA.out _ Bn.drew) (hOB.out _ Bn.drew)).mono ?_);rintro e w4 ⟨v4,rfl,ho4,hb4⟩;(have B4:=Bn.drew.trans (hb4.mono Bn.size));(have r4:=n3.drew.keep hb4);(have x1_:=aE hb4 (aX e1));(have x2_:=aE hb4 (aX e2));(have x3_:=aE hb4 (aX e3));(have x4_:=aE hb4 (aX e4));(have z4:wm.heap.size≤w4.heap.size:=hb4.size))
  | (go_at_call 163;(with_reducible refine (PT.out _ _ _ ho4).mono ?_);rintro e w5 ⟨vc,rfl,hoc,hbc⟩;obtain ⟨ac,capc,rfl,hmc,hvc⟩:=aF.view hoc;(have B5:=B4.trans (hbc.mono B4.size));(have r5:=r4.keep hbc);(have c0:=r5.c0);(have c1:=r5.c1);(have g0:=r5.f0);(have g1:=r5.f1);(have y1_:=aE hbc x1_);(have y2_:=aE hbc x2_);(have y3_:=aE hbc x3_);(have y4_:=aE hbc x4_);(clear hvc hmc))
  | fail "ARMS"))
 all_goals
  have hr:=cE (w:=w) (w.heap.size+1+1) _ (.bool s) (by omega) (Nat.lt_of_lt_of_le n3.size z4) hoc B5
  generalize (Wh.dig z.natAbs).length=n2_ at *
  go_wp2
  exact bodyPost_ret (v:=.agg #[.bool s,.slice ac n2_ capc]) (by simp [results,Tryz.results155,go_sem, *]) rfl (⟨_,rfl,hr.1,hr.2⟩)
theorem ki (a b:Int) (va vb:Value) (w:World) (ba bb:Nat) (hoa:ag w ba va a) (hob:ag w bb vb b) (hl1:(Wh.dig a.natAbs).length≤10000) (hl2:(Wh.dig b.natAbs).length≤10000) :
  Calls Tryz.prog 176 #[.agg #[.bool (decide (a<0)),va],.agg #[.bool (decide (b<0)),vb]] w fun e w'=>∃ sl,e=.returned (.agg #[.bool (decide (a - b<0)),sl])∧ag w' w.heap.size sl (a - b)∧Below w.heap.size w w':=by
 obtain ⟨aa,capa,rfl,-,-⟩:=aF.view hoa
 obtain ⟨ab,capb,rfl,-,-⟩:=aF.view hob
 have hnl:(Wh.dig (-b).natAbs).length≤10000:=by rw [Int.natAbs_neg];exact hl2
 have PM:=fun W (h:aF W bb (.slice ab (Wh.dig b.natAbs).length capb) (Wh.dig b.natAbs))=>gZ b (.slice ab (Wh.dig b.natAbs).length capb) W bb h (by omega)
 have PA:=fun vb' W bb' (h1:aF W ba (.slice aa (Wh.dig a.natAbs).length capa) (Wh.dig a.natAbs)) (h2:ag W bb' vb' (-b))=>iV a (-b) (.slice aa (Wh.dig a.natAbs).length capa) vb' W ba bb' h1 h2 hl1 hnl
 rw [←Int.sub_eq_add_neg] at PA
 have hOA:Hid (∀ W,Below w.heap.size w W→aF W ba (.slice aa (Wh.dig a.natAbs).length capa) (Wh.dig a.natAbs)):=ws fun W h=>aF.below hoa h
 have hOB:Hid (∀ W,Below w.heap.size w W→aF W bb (.slice ab (Wh.dig b.natAbs).length capb) (Wh.dig b.natAbs)):=ws fun W h=>aF.below hob h
 clear hoa hob hnl
 generalize decide (a<0)=s1 at *
 generalize decide (b<0)=s2 at *
 generalize a - b=z at *
 generalize -b=nb at *
 generalize Wh.dig a.natAbs=xs at *
 generalize Wh.dig b.natAbs=ys at *
 generalize xs.length=l1 at *
 generalize ys.length=l2 at *
 generalize decide (z<0)=s at *
 generalize decide (nb<0)=s3 at *
 have PM:=ws PM
 have PA:=ws PA
 have n1:=((ah.new w (.bool s1) (.slice aa l1 capa) 136).alloc (.cells #[.bool s2,.slice ab l2 capb] 136)).alloc (.cells #[.bool false,.slice none 0 0] 136)
 have n2:=(ah.new2 w (.cells #[.bool s1,.slice aa l1 capa] 136) (.bool s2) (.slice ab l2 capb) 136).alloc (.cells #[.bool false,.slice none 0 0] 136)
 have n3:=ah.new2 (w.alloc (.cells #[.bool s1,.slice aa l1 capa] 136)) (.cells #[.bool s2,.slice ab l2 capb] 136) (.bool false) (.slice none 0 0) 136
 rw [wt] at n3
 have Bn:=(((ww w.heap.size w).alloc (xA _) (.cells #[.bool s1,.slice aa l1 capa] 136)).alloc (by rw [wt];omega) (.cells #[.bool s2,.slice ab l2 capb] 136)).alloc (by rw [wt,wt];omega) (.cells #[.bool false,.slice none 0 0] 136)
 generalize hw3:((w.alloc (.cells #[.bool s1,.slice aa l1 capa] 136)).alloc (.cells #[.bool s2,.slice ab l2 capb] 136)).alloc (.cells #[.bool false,.slice none 0 0] 136)=w3 at *
 have e1:=n1.c0
 have e2:=n1.c1
 have e3:=n2.c0
 have e4:=n2.c1
 go_enter Tryz.func176,Tryz.ntmps176
 go_wp2
 go_region_held3 (fun W=>W.cell? ⟨w.heap.size,0,none⟩=some (.bool s1)∧W.cell? ⟨w.heap.size,1,none⟩=some (.slice aa l1 capa)∧W.cell? ⟨w.heap.size+1,0,none⟩=some (.bool s2)∧W.cell? ⟨w.heap.size+1,1,none⟩=some (.slice ab l2 capb)) (first | (refine ⟨?_,?_,?_,?_⟩ <;> (first | (with_reducible exact aE (by assumption) (by assumption)) | (with_reducible exact Gr.aw (by assumption)) | (with_reducible refine Gr.bQ (by assumption) ?_;(intro hh_;(try simp only [wt,aP,World.heap_drewN,aJ] at hh_);omega)) | (with_reducible refine Gr.cr (by assumption) ?_ ?_ <;> (intro hh_;(try simp only [wt,aP,World.heap_drewN,aJ] at hh_);omega)) | exact aE (by assumption) (by assumption) | (with_reducible exact ar (by assumption) (by assumption) (by assumption)))) | (go_split_ands;(refine ⟨?_,?_,?_,?_⟩ <;> (first | (with_reducible exact aE (by assumption) (by assumption)) | (with_reducible exact Gr.aw (by assumption)) | (with_reducible refine Gr.bQ (by assumption) ?_;(intro hh_;(try simp only [wt,aP,World.heap_drewN,aJ] at hh_);omega)) | (with_reducible refine Gr.cr (by assumption) ?_ ?_ <;> (intro hh_;(try simp only [wt,aP,World.heap_drewN,aJ] at hh_);omega)) | exact aE (by assumption) (by assumption) | (with_reducible exact ar (by assumption) (by assumption) (by assumption))))) | go_keep) ((first
  | (go_at_call 159;(with_reducible refine (PM.out _ (hOB.out _ Bn.drew)).mono ?_);rintro e w4 ⟨v4,rfl,ho4,hb4⟩;(have B4:=Bn.drew.trans (hb4.mono Bn.size));(have r4:=n3.drew.keep hb4);(have x1_:=aE hb4 (aX e1));(have x2_:=aE hb4 (aX e2));(have x3_:=aE hb4 (aX e3));(have x4_:=aE hb4 (aX e4));(have z4:w3.heap.size≤w4.heap.size:=hb4.size))
  | (go_at_call 155;(with_reducible refine (PA.out _ _ _ (hOA.out _ B4) ho4).mono ?_);rintro e w5 ⟨vc,rfl,hoc,hbc⟩;obtain ⟨ac,capc,rfl,hmc,hvc⟩:=aF.view hoc;(have B5:=B4.trans (hbc.mono B4.size));(have r5:=r4.keep hbc);(have c0:=r5.c0);(have c1:=r5.c1);(have g0:=r5.f0);(have g1:=r5.f1);(have y1_:=aE hbc x1_);(have y2_:=aE hbc x2_);(have y3_:=aE hbc x3_);(have y4_:=aE hbc x4_);(clear hvc hmc))
  | fail "ARMS"))
 all_goals
  have hr:=cE (w:=w) (w.heap.size+1+1) _ (.bool s) (by omega) (Nat.lt_of_lt_of_le n3.size z4) hoc B5
  generalize (Wh.dig z.natAbs).length=n2_ at *
  go_wp2
  exact bodyPost_ret (v:=.agg #[.bool s,.slice ac n2_ capc]) (by simp [results,Tryz.results176,go_sem, *]) rfl (⟨_,rfl,hr.1,hr.2⟩)
theorem jl (a n:Int) (va:Value) (w:World) (ba:Nat) (hoa:ag w ba va a) (hl1:(Wh.dig a.natAbs).length≤10000) (hn1:-1000000000000000000≤n) (hn2:n≤1000000000000000000) :
  Calls Tryz.prog 117 #[.agg #[.bool (decide (a<0)),va],.int .i64 n] w fun e w'=>∃ sl,e=.returned (.agg #[.bool (decide (a*n<0)),sl])∧ag w' w.heap.size sl (a*n)∧Below w.heap.size w w':=by
 obtain ⟨aa,capa,rfl,-,-⟩:=aF.view hoa
 have hnl:(Wh.dig n.natAbs).length≤10000:=Nat.le_trans (Wh.dE (k:=5) (by omega)) (by decide)
 have PM:=fun W=>bg n W hn1 hn2
 have PA:=fun vb' W bb' (h1:aF W ba (.slice aa (Wh.dig a.natAbs).length capa) (Wh.dig a.natAbs)) (h2:ag W bb' vb' n)=>cY a n (.slice aa (Wh.dig a.natAbs).length capa) vb' W ba bb' h1 h2 hl1 hnl
 have hOA:Hid (∀ W,Below w.heap.size w W→aF W ba (.slice aa (Wh.dig a.natAbs).length capa) (Wh.dig a.natAbs)):=ws fun W h=>aF.below hoa h
 clear hoa hnl hn1 hn2
 generalize decide (a<0)=s1 at *
 generalize a*n=z at *
 generalize Wh.dig a.natAbs=xs at *
 generalize xs.length=l1 at *
 generalize decide (z<0)=s at *
 generalize decide (n<0)=s3 at *
 have PM:=ws PM
 have PA:=ws PA
 have n1:=(ah.new w (.bool s1) (.slice aa l1 capa) 136).alloc (.cells #[.bool false,.slice none 0 0] 136)
 have n3:=ah.new2 w (.cells #[.bool s1,.slice aa l1 capa] 136) (.bool false) (.slice none 0 0) 136
 have Bn:=((ww w.heap.size w).alloc (xA _) (.cells #[.bool s1,.slice aa l1 capa] 136)).alloc (by rw [wt];omega) (.cells #[.bool false,.slice none 0 0] 136)
 generalize hw3:(w.alloc (.cells #[.bool s1,.slice aa l1 capa] 136)).alloc (.cells #[.bool false,.slice none 0 0] 136)=w3 at *
 have e1:=n1.c0
 have e2:=n1.c1
 go_enter Tryz.func117,Tryz.ntmps117
 go_wp2
 go_region_held3 (fun W=>W.cell? ⟨w.heap.size,0,none⟩=some (.bool s1)∧W.cell? ⟨w.heap.size,1,none⟩=some (.slice aa l1 capa)) (first | (refine ⟨?_,?_⟩ <;> (first | (with_reducible exact aE (by assumption) (by assumption)) | (with_reducible exact Gr.aw (by assumption)) | (with_reducible refine Gr.bQ (by assumption) ?_;(intro hh_;(try simp only [wt,aP,World.heap_drewN,aJ] at hh_);omega)) | (with_reducible refine Gr.cr (by assumption) ?_ ?_ <;> (intro hh_;(try simp only [wt,aP,World.heap_drewN,aJ] at hh_);omega)) | exact aE (by assumption) (by assumption) | (with_reducible exact ar (by assumption) (by assumption) (by assumption)))) | (go_split_ands;(refine ⟨?_,?_⟩ <;> (first | (with_reducible exact aE (by assumption) (by assumption)) | (with_reducible exact Gr.aw (by assumption)) | (with_reducible refine Gr.bQ (by assumption) ?_;(intro hh_;(try simp only [wt,aP,World.heap_drewN,aJ] at hh_);omega)) | (with_reducible refine Gr.cr (by assumption) ?_ ?_ <;> (intro hh_;(try simp only [wt,aP,World.heap_drewN,aJ] at hh_);omega)) | exact aE (by assumption) (by assumption) | (with_reducible exact ar (by assumption) (by assumption) (by assumption))))) | go_keep) ((first
  | (go_at_call 113;(with_reducible refine (PM.out _).mono ?_);rintro e w4 ⟨v4,rfl,ho4,hb4⟩;(have B4:=Bn.drew.trans (hb4.mono Bn.size));(have r4:=n3.drew.keep hb4);(have x1_:=aE hb4 (aX e1));(have x2_:=aE hb4 (aX e2));(have z4:w3.heap.size≤w4.heap.size:=hb4.size))
  | (go_at_call 112;(with_reducible refine (PA.out _ _ _ (hOA.out _ B4) ho4).mono ?_);rintro e w5 ⟨vc,rfl,hoc,hbc⟩;obtain ⟨ac,capc,rfl,hmc,hvc⟩:=aF.view hoc;(have B5:=B4.trans (hbc.mono B4.size));(have r5:=r4.keep hbc);(have c0:=r5.c0);(have c1:=r5.c1);(have g0:=r5.f0);(have g1:=r5.f1);(have y1_:=aE hbc x1_);(have y2_:=aE hbc x2_);(clear hvc hmc))
  | fail "ARMS"))
 all_goals
  have hr:=cE (w:=w) (w.heap.size+1) _ (.bool s) (by omega) (Nat.lt_of_lt_of_le n3.size z4) hoc B5
  generalize (Wh.dig z.natAbs).length=n2_ at *
  go_wp2
  exact bodyPost_ret (v:=.agg #[.bool s,.slice ac n2_ capc]) (by simp [results,Tryz.results117,go_sem, *]) rfl (⟨_,rfl,hr.1,hr.2⟩)
namespace Wh
theorem pg:∀ (l:List Int) (j:Nat) (t y:Int),l[j]?=some t→val (l.set j y)=val l+10000 ^ j*(y - t)
 | [],j,t,y,h=>by simp at h
 | x :: l,0,t,y,h=>by
  obtain rfl:x=t:=by simpa using h
  show y+10000*val l=x+10000*val l+10000 ^ 0*(y - x)
  rw [Int.pow_zero]
  omega
 | x :: l,j+1,t,y,h=>by
  have h':l[j]?=some t:=by simpa using h
  show x+10000*val (l.set j y)=x+10000*val l+10000 ^ (j+1)*(y - t)
  rw [pg l j t y h',Int.pow_succ]
  grind
structure gH (a b o:List Int) (x:Int) (i k:Nat):Prop where
 len:o.length=a.length+b.length
 eq:val o=val (a.take i)*val b+10000 ^ i*(x*val (b.take k))
 bd:∀ (j:Nat) (t:Int),o[j]?=some t→0≤t∧t≤(if j<i+k then (i:Int)+1 else i)*99980001
theorem gH.step {a b o:List Int} {x y t:Int} {i k:Nat} (h:gH a b o x i k) (hx:lim x) (hb:bM b) (hy:b[k]?=some y) (ht:o[i+k]?=some t):(0≤t∧t≤(i:Int)*99980001)∧gH a b (o.set (i+k) (t+x*y)) x i (k+1):=by
 have hm:=lE hx (hb y (List.mem_of_getElem? hy))
 have hb0:=h.bd _ _ ht
 rw [if_neg (Nat.lt_irrefl _)] at hb0
 refine ⟨hb0,⟨by rw [List.length_set,h.len],?_,?_⟩⟩
 ·rw [pg o _ _ _ ht,h.eq,b6 hy,Int.pow_add]
  grind
 intro j t' hj
 by_cases hjk:j=i+k
 ·subst hjk
  have hlt:=(List.getElem?_eq_some_iff.1 ht).1
  rw [List.getElem?_set_self hlt] at hj
  obtain rfl:=Option.some.inj hj
  rw [if_pos (by omega)]
  omega
 rw [List.getElem?_set_ne (by omega)] at hj
 have:=h.bd j t' hj
 by_cases hlt:j<i+k
 ·rw [if_pos hlt] at this;rw [if_pos (by omega)];exact this
 rw [if_neg hlt] at this;rw [if_neg (by omega)];exact this
theorem gH.row {a b o:List Int} {x:Int} {i:Nat} (h:gH a b o x i b.length) (hx:a[i]?=some x) (z:Int):gH a b o z (i+1) 0:=by
 refine ⟨h.len,?_,?_⟩
 ·rw [h.eq,List.take_length,b6 hx]
  simp [val]
  grind
 intro j t hj
 have:=h.bd j t hj
 have hi:((i+1:Nat):Int)=(i:Int)+1:=by omega
 rw [hi]
 by_cases h1:j<i+1+0
 ·rw [if_pos h1]
  split at this <;> omega
 rw [if_neg h1]
 split at this <;> omega
theorem gH.start (a b:List Int) (x:Int):gH a b (List.replicate (a.length+b.length) 0) x 0 0:=by
 refine ⟨List.length_replicate,by rw [tZ];simp [val],?_⟩
 intro j t hj
 rw [List.getElem?_replicate] at hj
 split at hj
 ·obtain rfl:=Option.some.inj hj
  split <;> simp
 cases hj
structure ix (o0 o:List Int) (i:Nat) (c:Int):Prop where
 len:o.length=o0.length
 eq:val (o.take i)+10000 ^ i*c=val (o0.take i)
 rest:o.drop i=o0.drop i
 ls:bM (o.take i)
 c0:0≤c∧c≤1000000000
theorem ix.start (o:List Int):ix o o 0 0 where
 len:=rfl
 eq:=by simp
 rest:=rfl
 ls:=fun x hx=>by simp at hx
 c0:=by omega
theorem ix.vS {o0 o:List Int} {i:Nat} {c:Int} (h:ix o0 o i c):o[i]?=o0[i]?:=by
 have:=congrArg (fun l:List Int=>l[0]?) h.rest
 simpa [List.getElem?_drop] using this
theorem ix.step {o0 o:List Int} {i:Nat} {c t:Int} (h:ix o0 o i c) (ht:o0[i]?=some t) (hb:0≤t∧t≤1000000000000):ix o0 (o.set i ((t+c) % 10000)) (i+1) ((t+c) / 10000):=by
 have hk:=(List.getElem?_eq_some_iff.1 ht).1
 have hc:=h.c0
 have htk:(o.set i ((t+c) % 10000)).take i=o.take i:=by
  rw [List.take_set,List.set_eq_of_length_le (by rw [List.length_take];omega)]
 have hsk:(o.set i ((t+c) % 10000))[i]?=some ((t+c) % 10000):=List.getElem?_set_self (by rw [h.len];exact hk)
 refine ⟨by rw [List.length_set,h.len],?_,?_,?_,by omega⟩
 ·rw [b6 hsk,htk,b6 ht,Int.pow_succ]
  have e:=h.eq
  have hd:=Int.mul_ediv_add_emod (t+c) 10000
  generalize (t+c) / 10000=q at *
  generalize (t+c) % 10000=r at *
  generalize (10000:Int) ^ i=P at *
  generalize val (o.take i)=v1 at *
  generalize val (o0.take i)=v2 at *
  grind
 ·rw [List.drop_set_of_lt (Nat.lt_succ_self i)]
  have:=congrArg (List.drop 1) h.rest
  rwa [List.drop_drop,List.drop_drop] at this
 rw [List.take_add_one,hsk,htk]
 refine cL h.ls fun z hz=>?_
 simp only [Option.toList_some,List.mem_singleton] at hz
 subst hz
 unfold lim
 omega
theorem ix.fin {o0 o:List Int} {n:Nat} {c v:Int} (h:ix o0 o n c) (hn:o0.length=n) (hv:val o0=v) (hlt:v<10000 ^ n):val o=v∧bM o:=by
 have e:=h.eq
 have hl:=h.ls
 have l1:=h.len
 rw [List.take_of_length_le (by omega),List.take_of_length_le (by omega),hv] at e
 rw [List.take_of_length_le (by omega)] at hl
 have o1:=ck hl
 have hp:=pow_pos n
 have hc:=h.c0
 refine ⟨?_,hl⟩
 by_cases h0:c=0
 ·subst h0;rw [Int.mul_zero] at e;omega
 have:=Int.mul_le_mul_of_nonneg_left (show 1≤c by omega) (Int.le_of_lt hp)
 omega
end Wh
theorem Wh.gH.chg {a b o:List Int} {x:Int} {i:Nat} (h:gH a b o x i 0) (z:Int):gH a b o z i 0:=
 ⟨h.len,by rw [h.eq];simp [val],h.bd⟩
theorem dj (a b:Int) (va vb:Value) (w:World) (ba bb:Nat) (hoa:ag w ba va a) (hob:ag w bb vb b) (hl1:(Wh.dig a.natAbs).length≤10000) (hl2:(Wh.dig b.natAbs).length≤10000) :
  Calls Tryz.prog 156 #[.agg #[.bool (decide (a<0)),va],.agg #[.bool (decide (b<0)),vb]] w fun e w'=>∃ sl,e=.returned (.agg #[.bool (decide (a*b<0)),sl])∧ag w' w.heap.size sl (a*b)∧Below w.heap.size w w':=by
 obtain ⟨aa,capa,rfl,hma,hva⟩:=aF.seen hoa
 obtain ⟨ab,capb,rfl,hmb,hvb⟩:=aF.seen hob
 have hva:=ws hva
 have hvb:=ws hvb
 have hla:=ws (Wh.am a.natAbs)
 have hlb:=ws (Wh.am b.natAbs)
 have PT:=fun W v base ho=>fa (a*b) ((a.natAbs:Int)*(b.natAbs:Int)) ((Wh.dig a.natAbs).length+(Wh.dig b.natAbs).length+1) (decide (a<0) != decide (b<0)) v W base ho (by omega) (Wh.pQ a b)
 have hpr:Hid (∀ (x y:List Int),x=Wh.dig a.natAbs→y=Wh.dig b.natAbs→Wh.val x*Wh.val y=(a.natAbs:Int)*(b.natAbs:Int)):=ws fun x y h1 h2=>by rw [h1,h2,Wh.bO,Wh.bO]
 have hpr:=ws (hpr.out _ _ rfl rfl)
 generalize decide (a<0)=s1 at *
 generalize decide (b<0)=s2 at *
 generalize (a.natAbs:Int)*(b.natAbs:Int)=y at *
 generalize a*b=z at *
 generalize decide (z<0)=s at *
 generalize Wh.dig a.natAbs=xs at *
 generalize Wh.dig b.natAbs=ys at *
 clear hma hmb hoa hob
 have b1:=((ah.new w (.bool s1) (.slice aa xs.length capa) 136).alloc (.cells #[.bool s2,.slice ab ys.length capb] 136)).alloc (.cells #[.bool false,.slice none 0 0] 136)
 have b2:=(ah.new2 w (.cells #[.bool s1,.slice aa xs.length capa] 136) (.bool s2) (.slice ab ys.length capb) 136).alloc (.cells #[.bool false,.slice none 0 0] 136)
 have b3:=ah.new2 (w.alloc (.cells #[.bool s1,.slice aa xs.length capa] 136)) (.cells #[.bool s2,.slice ab ys.length capb] 136) (.bool false) (.slice none 0 0) 136
 rw [wt] at b3
 have hB:=(((ww w.heap.size w).alloc (xA _) (.cells #[.bool s1,.slice aa xs.length capa] 136)).alloc (by rw [wt];omega) (.cells #[.bool s2,.slice ab ys.length capb] 136)).alloc (by rw [wt,wt];omega) (.cells #[.bool false,.slice none 0 0] 136)
 generalize hw3:((w.alloc (.cells #[.bool s1,.slice aa xs.length capa] 136)).alloc (.cells #[.bool s2,.slice ab ys.length capb] 136)).alloc (.cells #[.bool false,.slice none 0 0] 136)=w3 at *
 obtain ⟨w4,hrun,hown1,hg1⟩:=kP w3 (xs.length+ys.length) (by omega)
 rw [show ((xs.length+ys.length:Nat):Int)=(xs.length:Int)+(ys.length:Int) by omega] at hrun
 have hb4:Below w3.heap.size w3 w4:=cX hg1 (xA _) (fun k hk=>by cases hk)
 have hB3:=ws hB
 have e2:=b1.c1
 have e4:=b2.c1
 have k2:=b1.keep hb4
 have k4:=b2.keep hb4
 have f2:=k2.c1
 have f4:=k4.c1
 clear hg1
 go_enter Tryz.func156,Tryz.ntmps156
 go_wp2
 have b1h:=ws b1
 have b2h:=ws b2
 have b3h:=ws b3
 clear e2 e4 k2 k4 f2 f4 b1 b2 b3 hB
 go_loopw [6,7,8,9,24] (fun _ _ _ _ vi wr=>∃ (i:Nat) (o:List Int),i≤xs.length∧vi=.int .i64 i∧aF wr w3.heap.size (.slice (some ⟨w3.heap.size,0,none⟩) (xs.length+ys.length) (xs.length+ys.length)) o∧Wh.gH xs ys o 0 i 0∧Below w3.heap.size w3 wr) (fun _ _ _ _ vi _=>xs.length - (intOf vi).toNat)
 case atStart=>exact ⟨0,List.replicate (xs.length+ys.length) 0,Nat.zero_le _,rfl,hown1,Wh.gH.start xs ys 0,hb4⟩
 case round=>
 clear hown1 hb4
 obtain ⟨i,o,hi,rfl,hown,hsi,hbr⟩:=hrel
 have c1:=b1h.out.dL hbr b1h.out.size
 have c2:=b2h.out.dL hbr b2h.out.size
 have c3:=b3h.out.dL hbr b3h.out.size
 have hwr:Below w.heap.size w wr:=hB3.out.trans (hbr.mono hB3.out.size)
 by_cases hlt:i<xs.length
 ·obtain ⟨ga,x,ea,hga,hxa,hca⟩:=hva.out i hlt
  subst ea
  have hca2:=aE hwr hca
  have hlx:=ws (hla.out x (List.mem_of_getElem? hxa.out))
  have hsx:=hsi.chg x
  have d2:=c1.c1
  have d4:=c2.c1
  clear hca c1 c2 c3 hwr hsi
  go_wp2
  go_loopw [8,9,32] (fun _ _ vk wq=>∃ (k:Nat) (p:List Int),k≤ys.length∧vk=.int .i64 k∧aF wq w3.heap.size (.slice (some ⟨w3.heap.size,0,none⟩) (xs.length+ys.length) (xs.length+ys.length)) p∧Wh.gH xs ys p x i k∧Below w3.heap.size w3 wq) (fun _ _ vk _=>ys.length - (intOf vk).toNat)
  case atStart=>exact ⟨0,o,Nat.zero_le _,rfl,hown,hsx,hbr⟩
  case round=>
  clear hown hbr hca2 d2 d4 hsx
  obtain ⟨k,p,hk,rfl,hown,hsi,hbq⟩:=hrel
  have hwq:Below w.heap.size w wr:=hB3.out.trans (hbq.mono hB3.out.size)
  by_cases hkt:k<ys.length
  ·obtain ⟨gb,yb,eb,hgb,hxb,hcb⟩:=hvb.out k hkt
   subst eb
   have hcb:=aE hwq hcb
   have hpl:=hsi.len
   obtain ⟨t,ht⟩:∃ t,p[i+k]?=some t:=⟨_,List.getElem?_eq_getElem (by omega)⟩
   have hS:=hsi.step hlx.out hlb.out hxb.out ht
   have hm:=Wh.lE hlx.out (hlb.out yb (List.mem_of_getElem? hxb.out))
   have hc0:=aF.cellAt hpl.symm hown ht
   have hf0:wr.frozen? ⟨w3.heap.size,i+k,none⟩=false:=ek hpl hown (i+k)
   have hO:=ws (aF.set (j:=i+k) hpl.symm hown (t+x*yb) rfl)
   have htb:=hS.1
   have hS2:=ws hS.2
   have hbs2:=ws hbq
   have hzq:w3.heap.size<wr.heap.size:=World.block_lt_of_cell? wr _ hc0
   clear hS hsi hpl ht hown hxb
   generalize hpb:x*yb=pb at *
   go_wp2
   go_roundw
   case rel=>exact ⟨k+1,_,by omega,by go_num,hO.out.1,hS2.out,hbs2.out.setCell (xA _) _⟩
   case measure=>simp [intOf];omega
  obtain rfl:k=ys.length:=by omega
  have hrow:=ws (hsi.row hxa.out 0)
  have hown:=ws hown
  clear hsi
  go_wp2
  go_roundw
  case rel=>exact ⟨i+1,p,by omega,by go_num,hown.out,hrow.out,hbq⟩
  case measure=>simp [intOf];omega
 obtain rfl:i=xs.length:=by omega
 have hvo:Hid (Wh.val o=y):=ws (by rw [hsi.eq,List.take_length,←hpr.out];simp [Wh.val])
 have hyb:Hid (y<10000 ^ (xs.length+ys.length)):=ws (by rw [←hpr.out];exact Wh.pV hla.out hlb.out (xA _))
 have hbd:Hid (∀ (j:Nat) (t:Int),o[j]?=some t→0≤t∧t≤1000000000000):=ws fun j t hj=>by
  have:=hsi.bd j t hj
  split at this <;> omega
 have hol:=ws hsi.len
 have d1:=c1.c0
 have d3:=c2.c0
 clear hsi
 go_wp2
 clear d1 d3 c1 c2 c3 hwr
 go_loopw [10,11,12,52] (fun vc _ _ vi wq=>∃ (j:Nat) (p:List Int) (c:Int),j≤(xs.length+ys.length)∧vi=.int .i64 j∧vc=.int .i64 c∧aF wq w3.heap.size (.slice (some ⟨w3.heap.size,0,none⟩) (xs.length+ys.length) (xs.length+ys.length)) p∧Wh.ix o p j c∧Below w3.heap.size w3 wq) (fun _ _ _ vi _=>(xs.length+ys.length) - (intOf vi).toNat)
 case atStart=>exact ⟨0,o,0,Nat.zero_le _,rfl,rfl,hown,Wh.ix.start o,hbr⟩
 case round=>
 clear hown hbr
 obtain ⟨j,p,c,hj,rfl,rfl,hown,hki,hbq⟩:=hrel
 by_cases hjt:j<(xs.length+ys.length)
 ·obtain ⟨t,ht⟩:∃ t,o[j]?=some t:=⟨_,List.getElem?_eq_getElem (by rw [hol.out];exact hjt)⟩
  have hpl:=hki.len.trans hol.out
  have hpk:=hki.vS.trans ht
  have hc0:=aF.cellAt hpl.symm hown hpk
  have hf0:wr.frozen? ⟨w3.heap.size,j,none⟩=false:=ek hpl hown j
  have htb:=hbd.out _ _ ht
  have hcr:=hki.c0
  have hS2:=ws (hki.step ht htb)
  have hO:=ws (aF.set (j:=j) hpl.symm hown ((t+c) % 10000) rfl)
  have t1:Int.tmod (t+c) 10000=(t+c) % 10000:=Int.tmod_eq_emod_of_nonneg (by omega)
  have t2:Int.tdiv (t+c) 10000=(t+c) / 10000:=Int.tdiv_eq_ediv_of_nonneg (by omega)
  have hrr:0≤(t+c) % 10000∧(t+c) % 10000<10000:=by omega
  have hqq:0≤(t+c) / 10000∧(t+c) / 10000≤1000000000:=by omega
  have hbs2:=ws hbq
  have hzq:w3.heap.size<wr.heap.size:=World.block_lt_of_cell? wr _ hc0
  clear hki hpl hpk ht hown
  generalize (t+c) % 10000=r at *
  generalize (t+c) / 10000=qq at *
  go_wp2
  go_roundw
  case rel=>exact ⟨j+1,_,_,by omega,by go_num,by go_num,hO.out.1,hS2.out,hbs2.out.setCell (xA _) _⟩
  case measure=>simp [intOf];omega
 have e:j=(xs.length+ys.length):=by omega
 subst e
 have hf:=hki.fin hol.out hvo.out hyb.out
 have hpl:=hki.len.trans hol.out
 have hov:Hid (iz wr w3.heap.size (.slice (some ⟨w3.heap.size,0,none⟩) (xs.length+ys.length) (xs.length+ys.length)) y (xs.length+ys.length+1)):=ws ⟨p,hown,hf.2,hf.1,by rw [hpl];omega⟩
 have c1:=b1h.out.dL hbq b1h.out.size
 have c2:=b2h.out.dL hbq b2h.out.size
 have c3:=b3h.out.dL hbq b3h.out.size
 have hwr:Below w.heap.size w wr:=hB3.out.trans (hbq.mono hB3.out.size)
 have d1:=c1.c0
 have d3:=c2.c0
 clear hki hown hf hpl
 rw [show (s1 != s2)=!(s1 == s2) from rfl] at PT
 have PT:=ws PT
 go_wp2_with (go_at_call 163;(with_reducible refine (PT.out _ _ _ hov.out).mono ?_);rintro e w5 ⟨vc,rfl,hoc,hbc⟩;obtain ⟨ac,capc,rfl,hmc,hvc⟩:=aF.view hoc;(have r5:=c3.keep hbc);(have p0:=r5.c0);(have p1:=r5.c1);(have g0:=r5.f0);(have g1:=r5.f1);(clear hvc hmc))
 have hr:=cE (w:=w) (w.heap.size+1+1) _ (.bool s) (by omega) c3.size hoc (hwr.trans (hbc.mono hwr.size))
 generalize (Wh.dig z.natAbs).length=n2_ at *
 exact bodyPost_ret (v:=.agg #[.bool s,.slice ac n2_ capc]) (by simp [results,Tryz.results156,go_sem, *]) rfl (⟨_,rfl,hr.1,hr.2⟩)
end
end Go.Proofs.YtgfkcoablfjbcaaGreat
