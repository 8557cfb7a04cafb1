/-
  Joined texts: contracts and plain lemmas.
-/
import Derived.Test.YtgfkcoablfjbcaaGreatDoorB1
import Derived.Test.YtgfkcoablfjbcaaGreatDoorB4
set_option linter.unusedSimpArgs false
set_option linter.unusedVariables false
set_option maxRecDepth 100000
set_option maxHeartbeats 8000000
namespace Go.Proofs.YtgfkcoablfjbcaaGreatDoor
section
open Go.RowKit
theorem gn (xs ys:List Int) (s:Int) (va vb:Value) (w:World) (ba bb:Nat) (hs:s=1∨s=-1) (hoa:aF w ba va xs) (hob:aF w bb vb ys) (hla:Wh.bG xs) (hlb:Wh.bG ys) (hnn:0≤Wh.val xs+s*Wh.val ys) (hl1:xs.length≤100000) (hl2:ys.length≤100000) :
  Calls Tryz.prog 143 #[va,vb,.int .i64 s] w fun e w'=>∃ v,e=.returned v∧iS w' w.heap.size v (Wh.val xs+s*Wh.val ys) (xs.length+ys.length+1)∧Below w.heap.size w w':=by
 have PA:=fun (i:Nat) W h=>eu xs va i W ba h
 have PB:=fun (i:Nat) W h=>eu ys vb i W bb h
 have PA:=uh PA
 have PB:=uh PB
 obtain ⟨aa,capa,rfl,hma,hva⟩:=hoa.view
 obtain ⟨ab,capb,rfl,hmb,hvb⟩:=hob.view
 have hoa:=uh hoa
 have hob:=uh hob
 have hla:=uh hla
 have hlb:=uh hlb
 have hnn:=uh hnn
 clear hma hmb hva hvb
 obtain ⟨L,hL1,hL2,hL3⟩:∃ L:Nat,xs.length≤L∧ys.length≤L∧L≤xs.length+ys.length∧(xs.length=L∨ys.length=L):=⟨max xs.length ys.length,by omega,by omega,by omega⟩
 go_enter Tryz.func143,Tryz.ntmps143
 go_wp2
 go_loopw [7,8,9,10,38,43] (fun vo vc vi _ _ _ wr=>∃ (i:Nat) (o:List Int) (c:Int),i≤L+1∧(L<i→c=0)∧vi=.int .i64 i∧vc=.int .i64 c∧aF wr w.heap.size vo o∧Wh.eQ xs ys s i o c∧Below w.heap.size w wr) (fun _ _ vi _ _ _ _=>L+2 - (intOf vi).toNat)
 case atStart=>exact ⟨0,[],0,by omega,fun h=>by omega,rfl,rfl,aF.nil _ _,Wh.eQ.start xs ys s,uk _ _⟩
 case round=>
 obtain ⟨i,o,c,hi,hic,rfl,rfl,hown,hai,hbr⟩:=hrel
 have hrg:=hai.rng hs hla.out hlb.out
 have hol:=hai.len
 have hzr:=hbr.size
 have QA:=PA.out i
 have QB:=PB.out i
 have hly:=Wh.iJ hlb.out i
 unfold Wh.lim at hly
 have hstep:=uh fun x c' h1 h2 h3 h4=>hai.step (x:=x) (c':=c') h1 h2 h3 h4
 have hsx:-9999≤s*Wh.nth ys i∧s*Wh.nth ys i≤9999:=by rcases hs with rfl | rfl <;> omega
 have hcar:=uh fun h1 h2 h3=>hai.carry hs h1 h2 hnn.out h3
 have hfin:Hid (xs.length≤i→ys.length≤i→c=0→Wh.val xs+s*Wh.val ys=Wh.val o):=uh fun h1 h2 h3=>(hai.all h1 h2).symm.trans (by rw [h3,Int.mul_zero,Int.add_zero])
 have hls:=uh hai.ls
 have hown:=uh hown
 clear hai
 have hnx:=Wh.cW (l:=xs) (i:=i)
 have hny:=Wh.cW (l:=ys) (i:=i)
 have hnx:=uh hnx
 have hny:=uh hny
 obtain ⟨x,hx⟩:∃ x,Wh.nth xs i=x:=⟨_,rfl⟩
 obtain ⟨y,hy⟩:∃ y,Wh.nth ys i=y:=⟨_,rfl⟩
 rw [hx] at QA hrg hstep hnx
 rw [hy] at QB hrg hstep hsx hly hny
 clear hx hy
 have QA:=uh QA
 have QB:=uh QB
 generalize hsb:s*y=sb at *
 by_cases ha:i<xs.length
 ·have hiL:i<L:=by omega
  clear hcar hfin hnx hny
  by_cases hx0:x+sb+c<0
  ·skip
   have hS:=hstep.out (x+sb+c+10000) (-1) ⟨by omega,by omega⟩ (by omega) (by intro h1;first | omega | (rcases hs with h | h <;> omega)) (by intro h1;first | omega | (rcases hs with h | h <;> omega))
   have hS:=uh hS
   clear hstep
   go_wp2_with (first
    | (go_at_call 134;first
     | ((with_reducible refine (QA.out _ (hoa.out.below hbr)).mono ?_);rintro e w5 ⟨rfl,rfl⟩)
     | ((with_reducible refine (QB.out _ (hob.out.below hbr)).mono ?_);rintro e w6 ⟨rfl,rfl⟩))
    | (at_builtin;refine cY (W:=wr) w.heap.size (x+sb+c+10000) _ _ rfl (.tmp 48) (.tmp 50) rfl rfl rfl hown.out (uk _ _) (by omega) (by omega) ?_;rintro v6 w6 hown6 hb6))
   go_roundw
   case rel=>exact ⟨i+1,_,_,by omega,fun h=>by first | rfl | omega,by go_num,by go_num,hown6,hS.out,hbr.trans hb6⟩
   case measure=>simp [intOf];omega
  by_cases hx1:10000≤x+sb+c
  ·skip
   have hS:=hstep.out (x+sb+c - 10000) (1) ⟨by omega,by omega⟩ (by omega) (by intro h1;first | omega | (rcases hs with h | h <;> omega)) (by intro h1;first | omega | (rcases hs with h | h <;> omega))
   have hS:=uh hS
   clear hstep
   go_wp2_with (first
    | (go_at_call 134;first
     | ((with_reducible refine (QA.out _ (hoa.out.below hbr)).mono ?_);rintro e w5 ⟨rfl,rfl⟩)
     | ((with_reducible refine (QB.out _ (hob.out.below hbr)).mono ?_);rintro e w6 ⟨rfl,rfl⟩))
    | (at_builtin;refine cY (W:=wr) w.heap.size (x+sb+c - 10000) _ _ rfl (.tmp 48) (.tmp 50) rfl rfl rfl hown.out (uk _ _) (by omega) (by omega) ?_;rintro v6 w6 hown6 hb6))
   go_roundw
   case rel=>exact ⟨i+1,_,_,by omega,fun h=>by first | rfl | omega,by go_num,by go_num,hown6,hS.out,hbr.trans hb6⟩
   case measure=>simp [intOf];omega
  skip
  have hS:=hstep.out (x+sb+c) (0) ⟨by omega,by omega⟩ (by omega) (by intro h1;first | omega | (rcases hs with h | h <;> omega)) (by intro h1;first | omega | (rcases hs with h | h <;> omega))
  have hS:=uh hS
  clear hstep
  go_wp2_with (first
   | (go_at_call 134;first
    | ((with_reducible refine (QA.out _ (hoa.out.below hbr)).mono ?_);rintro e w5 ⟨rfl,rfl⟩)
    | ((with_reducible refine (QB.out _ (hob.out.below hbr)).mono ?_);rintro e w6 ⟨rfl,rfl⟩))
   | (at_builtin;refine cY (W:=wr) w.heap.size (x+sb+c) _ _ rfl (.tmp 48) (.tmp 50) rfl rfl rfl hown.out (uk _ _) (by omega) (by omega) ?_;rintro v6 w6 hown6 hb6))
  go_roundw
  case rel=>exact ⟨i+1,_,_,by omega,fun h=>by first | rfl | omega,by go_num,by go_num,hown6,hS.out,hbr.trans hb6⟩
  case measure=>simp [intOf];omega
 by_cases hb:i<ys.length
 ·have hiL:i<L:=by omega
  clear hcar hfin hnx hny
  by_cases hx0:x+sb+c<0
  ·skip
   have hS:=hstep.out (x+sb+c+10000) (-1) ⟨by omega,by omega⟩ (by omega) (by intro h1;first | omega | (rcases hs with h | h <;> omega)) (by intro h1;first | omega | (rcases hs with h | h <;> omega))
   have hS:=uh hS
   clear hstep
   go_wp2_with (first
    | (go_at_call 134;first
     | ((with_reducible refine (QA.out _ (hoa.out.below hbr)).mono ?_);rintro e w5 ⟨rfl,rfl⟩)
     | ((with_reducible refine (QB.out _ (hob.out.below hbr)).mono ?_);rintro e w6 ⟨rfl,rfl⟩))
    | (at_builtin;refine cY (W:=wr) w.heap.size (x+sb+c+10000) _ _ rfl (.tmp 48) (.tmp 50) rfl rfl rfl hown.out (uk _ _) (by omega) (by omega) ?_;rintro v6 w6 hown6 hb6))
   go_roundw
   case rel=>exact ⟨i+1,_,_,by omega,fun h=>by first | rfl | omega,by go_num,by go_num,hown6,hS.out,hbr.trans hb6⟩
   case measure=>simp [intOf];omega
  by_cases hx1:10000≤x+sb+c
  ·skip
   have hS:=hstep.out (x+sb+c - 10000) (1) ⟨by omega,by omega⟩ (by omega) (by intro h1;first | omega | (rcases hs with h | h <;> omega)) (by intro h1;first | omega | (rcases hs with h | h <;> omega))
   have hS:=uh hS
   clear hstep
   go_wp2_with (first
    | (go_at_call 134;first
     | ((with_reducible refine (QA.out _ (hoa.out.below hbr)).mono ?_);rintro e w5 ⟨rfl,rfl⟩)
     | ((with_reducible refine (QB.out _ (hob.out.below hbr)).mono ?_);rintro e w6 ⟨rfl,rfl⟩))
    | (at_builtin;refine cY (W:=wr) w.heap.size (x+sb+c - 10000) _ _ rfl (.tmp 48) (.tmp 50) rfl rfl rfl hown.out (uk _ _) (by omega) (by omega) ?_;rintro v6 w6 hown6 hb6))
   go_roundw
   case rel=>exact ⟨i+1,_,_,by omega,fun h=>by first | rfl | omega,by go_num,by go_num,hown6,hS.out,hbr.trans hb6⟩
   case measure=>simp [intOf];omega
  skip
  have hS:=hstep.out (x+sb+c) (0) ⟨by omega,by omega⟩ (by omega) (by intro h1;first | omega | (rcases hs with h | h <;> omega)) (by intro h1;first | omega | (rcases hs with h | h <;> omega))
  have hS:=uh hS
  clear hstep
  go_wp2_with (first
   | (go_at_call 134;first
    | ((with_reducible refine (QA.out _ (hoa.out.below hbr)).mono ?_);rintro e w5 ⟨rfl,rfl⟩)
    | ((with_reducible refine (QB.out _ (hob.out.below hbr)).mono ?_);rintro e w6 ⟨rfl,rfl⟩))
   | (at_builtin;refine cY (W:=wr) w.heap.size (x+sb+c) _ _ rfl (.tmp 48) (.tmp 50) rfl rfl rfl hown.out (uk _ _) (by omega) (by omega) ?_;rintro v6 w6 hown6 hb6))
  go_roundw
  case rel=>exact ⟨i+1,_,_,by omega,fun h=>by first | rfl | omega,by go_num,by go_num,hown6,hS.out,hbr.trans hb6⟩
  case measure=>simp [intOf];omega
 by_cases hc0:c=0
 ·subst hc0
  have hv:=hfin.out (by omega) (by omega) rfl
  have hres:Hid (∀ vo W b,aF W b vo o→iS W b vo (Wh.val xs+s*Wh.val ys) (xs.length+ys.length+1)):=uh fun vo W b h=>⟨o,h,hls.out,hv.symm,by omega⟩
  clear hstep hcar hfin hnx hny hv
  go_wp2
  go_ret
  exact ⟨_,rfl,hres.out _ _ _ hown.out,hbr⟩
 have hc1:=hcar.out (by omega) (by omega) hc0
 have hiL:i≤L:=by
  by_cases h:L<i
  ·exact absurd (hic h) hc0
  omega
 have hx0_:=hnx.out (by omega)
 have hy0_:=hny.out (by omega)
 have hs0_:sb=0:=by rw [←hsb,hy0_,Int.mul_zero]
 clear hcar hfin hnx hny
 by_cases hx0:x+sb+c<0
 ·skip
  exfalso;omega
 by_cases hx1:10000≤x+sb+c
 ·skip
  exfalso;omega
 skip
 have hS:=hstep.out (1) (0) ⟨by omega,by omega⟩ (by omega) (by intro h1;first | omega | (rcases hs with h | h <;> omega)) (by intro h1;first | omega | (rcases hs with h | h <;> omega))
 have hS:=uh hS
 clear hstep
 go_wp2_with (first
  | (go_at_call 134;first
   | ((with_reducible refine (QA.out _ (hoa.out.below hbr)).mono ?_);rintro e w5 ⟨rfl,rfl⟩)
   | ((with_reducible refine (QB.out _ (hob.out.below hbr)).mono ?_);rintro e w6 ⟨rfl,rfl⟩))
  | (at_builtin;refine cY (W:=wr) w.heap.size (1) _ _ rfl (.tmp 48) (.tmp 50) rfl rfl rfl hown.out (uk _ _) (by omega) (by omega) ?_;rintro v6 w6 hown6 hb6))
 go_roundw
 case rel=>exact ⟨i+1,_,_,by omega,fun h=>by first | rfl | omega,by go_num,by go_num,hown6,hS.out,hbr.trans hb6⟩
 case measure=>simp [intOf];omega
theorem fI (z y:Int) (n:Nat) (neg:Bool) (v:Value) (w:World) (base:Nat) (ho:iS w base v y n) (hn:n≤1000000) (hz:Wh.sgn neg y=z) :
  Calls Tryz.prog 133 #[.bool neg,v] w fun e w'=>∃ sl,e=.returned (.agg #[.bool (decide (z<0)),sl])∧ae w' w.heap.size sl z∧Below w.heap.size w w':=by
 obtain ⟨o,h1,h2,h3,h4⟩:=ho
 exact fJ z neg o v w base h1 h2 (by omega) (by rw [h3];exact hz)
theorem iC (a b:Int) (va vb:Value) (w:World) (ba bb:Nat) (hoa:ae w ba va a) (hob:ae w bb vb b) (hl1:(Wh.dig a.natAbs).length≤10000) (hl2:(Wh.dig b.natAbs).length≤10000) :
  Calls Tryz.prog 125 #[.agg #[.bool (decide (a<0)),va],.agg #[.bool (decide (b<0)),vb]] w fun e w'=>∃ sl,e=.returned (.agg #[.bool (decide (a+b<0)),sl])∧ae w' w.heap.size sl (a+b)∧Below w.heap.size w w':=by
 obtain ⟨aa,capa,rfl,-,-⟩:=aF.view hoa
 obtain ⟨ab,capb,rfl,-,-⟩:=aF.view hob
 have PA:=fun s hs h0 W h1 h2=>gn (Wh.dig a.natAbs) (Wh.dig b.natAbs) s (.slice aa (Wh.dig a.natAbs).length capa) (.slice ab (Wh.dig b.natAbs).length capb) W ba bb hs h1 h2 (Wh.ai _) (Wh.ai _) h0 (by omega) (by omega)
 rw [Wh.bI,Wh.bI] at PA
 have PA':=fun s hs h0 W h1 h2=>gn (Wh.dig b.natAbs) (Wh.dig a.natAbs) s (.slice ab (Wh.dig b.natAbs).length capb) (.slice aa (Wh.dig a.natAbs).length capa) W bb ba hs h1 h2 (Wh.ai _) (Wh.ai _) h0 (by omega) (by omega)
 rw [Wh.bI,Wh.bI] at PA'
 have PO:=fun W h1 h2=>oW (Wh.dig a.natAbs) (Wh.dig b.natAbs) (.slice aa (Wh.dig a.natAbs).length capa) (.slice ab (Wh.dig b.natAbs).length capb) W ba bb h1 h2 (Wh.ai _) (Wh.ai _) (by omega) (by omega)
 rw [Wh.bI,Wh.bI] at PO
 have PT:=fun s y (h:Wh.sgn s y=a+b) W v base ho=>fI (a+b) y ((Wh.dig a.natAbs).length+(Wh.dig b.natAbs).length+1) s v W base ho (by omega) h
 have PT':=fun s y (h:Wh.sgn s y=a+b) W v base ho=>fI (a+b) y ((Wh.dig b.natAbs).length+(Wh.dig a.natAbs).length+1) s v W base ho (by omega) h
 have hOA:Hid (∀ W,Below w.heap.size w W→aF W ba (.slice aa (Wh.dig a.natAbs).length capa) (Wh.dig a.natAbs)):=uh fun W h=>aF.below hoa h
 have hOB:Hid (∀ W,Below w.heap.size w W→aF W bb (.slice ab (Wh.dig b.natAbs).length capb) (Wh.dig b.natAbs)):=uh fun W h=>aF.below hob h
 obtain ⟨s1,hs1⟩:∃ s,decide (a<0)=s:=⟨_,rfl⟩
 obtain ⟨s2,hs2⟩:∃ s,decide (b<0)=s:=⟨_,rfl⟩
 clear hoa hob
 by_cases hss:s1=s2
 ·subst hss
  have PT:=uh (PT s1 _ (Wh.add_same hs1 hs2))
  have PA:=uh (PA 1 (Or.inl rfl) (by omega))
  rw [hs1,hs2]
  clear hs1 hs2 PA' PT' PO
  generalize (a.natAbs:Int)+1*(b.natAbs:Int)=y at *
  generalize a+b=z at *
  generalize Wh.dig a.natAbs=xs at *
  generalize Wh.dig b.natAbs=ys at *
  generalize xs.length=l1 at *
  generalize ys.length=l2 at *
  generalize decide (z<0)=s at *
  have b1:=((af.new w (.bool s1) (.slice aa l1 capa) 106).alloc (.cells #[.bool s1,.slice ab l2 capb] 106)).alloc (.cells #[.bool false,.slice none 0 0] 106)
  have b2:=(af.new2 w (.cells #[.bool s1,.slice aa l1 capa] 106) (.bool s1) (.slice ab l2 capb) 106).alloc (.cells #[.bool false,.slice none 0 0] 106)
  have b3:=af.new2 (w.alloc (.cells #[.bool s1,.slice aa l1 capa] 106)) (.cells #[.bool s1,.slice ab l2 capb] 106) (.bool false) (.slice none 0 0) 106
  rw [ui] at b3
  have hB:=(((uk w.heap.size w).alloc (ul _) (.cells #[.bool s1,.slice aa l1 capa] 106)).alloc (by rw [ui];omega) (.cells #[.bool s1,.slice ab l2 capb] 106)).alloc (by rw [ui,ui];omega) (.cells #[.bool false,.slice none 0 0] 106)
  generalize hw3:((w.alloc (.cells #[.bool s1,.slice aa l1 capa] 106)).alloc (.cells #[.bool s1,.slice ab l2 capb] 106)).alloc (.cells #[.bool false,.slice none 0 0] 106)=w3 at *
  have n1:=b1
  have n2:=b2
  have n3:=b3
  have Bn:=hB
  clear b1 b2 b3
  have e1:=n1.c0
  have e2:=n1.c1
  have e3:=n2.c0
  have e4:=n2.c1
  go_enter Tryz.func125,Tryz.ntmps125
  go_wp2
  go_region_held3 (fun W=>W.cell? ⟨w.heap.size,0,none⟩=some (.bool s1)∧W.cell? ⟨w.heap.size,1,none⟩=some (.slice aa l1 capa)∧W.cell? ⟨w.heap.size+1,0,none⟩=some (.bool s1)∧W.cell? ⟨w.heap.size+1,1,none⟩=some (.slice ab l2 capb)) (first | (refine ⟨?_,?_,?_,?_⟩ <;> (first | (with_reducible exact aE (by assumption) (by assumption)) | (with_reducible exact Gr.aw (by assumption)) | (with_reducible refine Gr.bM (by assumption) ?_;(intro hh_;(try simp only [ui,aM,World.heap_drewN,aI] at hh_);omega)) | (with_reducible refine Gr.co (by assumption) ?_ ?_ <;> (intro hh_;(try simp only [ui,aM,World.heap_drewN,aI] at hh_);omega)) | exact aE (by assumption) (by assumption) | (with_reducible exact ar (by assumption) (by assumption) (by assumption)))) | (go_split_ands;(refine ⟨?_,?_,?_,?_⟩ <;> (first | (with_reducible exact aE (by assumption) (by assumption)) | (with_reducible exact Gr.aw (by assumption)) | (with_reducible refine Gr.bM (by assumption) ?_;(intro hh_;(try simp only [ui,aM,World.heap_drewN,aI] at hh_);omega)) | (with_reducible refine Gr.co (by assumption) ?_ ?_ <;> (intro hh_;(try simp only [ui,aM,World.heap_drewN,aI] at hh_);omega)) | exact aE (by assumption) (by assumption) | (with_reducible exact ar (by assumption) (by assumption) (by assumption))))) | go_keep) ((first
   | (go_at_call 143;(with_reducible refine (PA.out _ (hOA.out _ Bn.drew) (hOB.out _ Bn.drew)).mono ?_);rintro e w4 ⟨v4,rfl,ho4,hb4⟩;(have B4:=Bn.drew.trans (hb4.mono Bn.size));(have r4:=n3.drew.keep hb4);(have x1_:=aE hb4 (aW e1));(have x2_:=aE hb4 (aW e2));(have x3_:=aE hb4 (aW e3));(have x4_:=aE hb4 (aW e4));(have z4:w3.heap.size≤w4.heap.size:=hb4.size))
   | (go_at_call 133;(with_reducible refine (PT.out _ _ _ ho4).mono ?_);rintro e w5 ⟨vc,rfl,hoc,hbc⟩;obtain ⟨ac,capc,rfl,hmc,hvc⟩:=aF.view hoc;(have B5:=B4.trans (hbc.mono B4.size));(have r5:=r4.keep hbc);(have c0:=r5.c0);(have c1:=r5.c1);(have g0:=r5.f0);(have g1:=r5.f1);(have y1_:=aE hbc x1_);(have y2_:=aE hbc x2_);(have y3_:=aE hbc x3_);(have y4_:=aE hbc x4_);(clear hvc hmc))
   | fail "ARMS"))
  all_goals
   have hr:=cH (w:=w) (w.heap.size+1+1) _ (.bool s) (by omega) (Nat.lt_of_lt_of_le n3.size z4) hoc B5
   generalize (Wh.dig z.natAbs).length=n2_ at *
   go_wp2
   exact bodyPost_ret (v:=.agg #[.bool s,.slice ac n2_ capc]) (by simp [results,Tryz.results125,go_sem, *]) rfl (⟨_,rfl,hr.1,hr.2⟩)
 have hx:(s1=false∧s2=true)∨(s1=true∧s2=false):=by cases s1 <;> cases s2 <;> simp_all
 clear hss
 rcases hx with ⟨rfl,rfl⟩ | ⟨rfl,rfl⟩
 ·skip
  have hd:=Wh.dU (a:=a) (b:=b) hs1 hs2
  have hd':=Wh.dU (a:=b) (b:=a) hs2 hs1
  rw [Int.add_comm b a] at hd'
  rw [hs1,hs2]
  clear hs1 hs2
  by_cases hlt:a.natAbs<b.natAbs
  ·skip
   have PT:=uh (PT' true _ hd')
   have PA:=uh (PA' (-1) (Or.inr rfl) (by omega))
   rw [Wh.fG (by omega)] at PO
   have PO:=uh PO
   clear hlt hd hd' PT' PA'
   generalize (b.natAbs:Int)+-1*(a.natAbs:Int)=y at *
   generalize a+b=z at *
   generalize Wh.dig a.natAbs=xs at *
   generalize Wh.dig b.natAbs=ys at *
   generalize xs.length=l1 at *
   generalize ys.length=l2 at *
   generalize decide (z<0)=s at *
   have b1:=((af.new w (.bool false) (.slice aa l1 capa) 106).alloc (.cells #[.bool true,.slice ab l2 capb] 106)).alloc (.cells #[.bool false,.slice none 0 0] 106)
   have b2:=(af.new2 w (.cells #[.bool false,.slice aa l1 capa] 106) (.bool true) (.slice ab l2 capb) 106).alloc (.cells #[.bool false,.slice none 0 0] 106)
   have b3:=af.new2 (w.alloc (.cells #[.bool false,.slice aa l1 capa] 106)) (.cells #[.bool true,.slice ab l2 capb] 106) (.bool false) (.slice none 0 0) 106
   rw [ui] at b3
   have hB:=(((uk w.heap.size w).alloc (ul _) (.cells #[.bool false,.slice aa l1 capa] 106)).alloc (by rw [ui];omega) (.cells #[.bool true,.slice ab l2 capb] 106)).alloc (by rw [ui,ui];omega) (.cells #[.bool false,.slice none 0 0] 106)
   generalize hw3:((w.alloc (.cells #[.bool false,.slice aa l1 capa] 106)).alloc (.cells #[.bool true,.slice ab l2 capb] 106)).alloc (.cells #[.bool false,.slice none 0 0] 106)=w3 at *
   have i1:=b1.c0
   have i2:=b1.c1
   have i3:=b2.c0
   have i4:=b2.c1
   go_enter Tryz.func125,Tryz.ntmps125
   go_wp2_with (go_at_call 144;(with_reducible refine (PO.out _ (hOA.out _ hB) (hOB.out _ hB)).mono ?_);rintro e wm ⟨rfl,hbm⟩;(have n1:=b1.keep hbm);(have n2:=b2.keep hbm);(have n3:=b3.keep hbm);(have Bn:=hB.trans (hbm.mono hB.size)))
   clear i1 i2 i3 i4 b1 b2 b3 hbm
   have e1:=n1.c0
   have e2:=n1.c1
   have e3:=n2.c0
   have e4:=n2.c1
   go_region_held3 (fun W=>W.cell? ⟨w.heap.size,0,none⟩=some (.bool false)∧W.cell? ⟨w.heap.size,1,none⟩=some (.slice aa l1 capa)∧W.cell? ⟨w.heap.size+1,0,none⟩=some (.bool true)∧W.cell? ⟨w.heap.size+1,1,none⟩=some (.slice ab l2 capb)) (first | (refine ⟨?_,?_,?_,?_⟩ <;> (first | (with_reducible exact aE (by assumption) (by assumption)) | (with_reducible exact Gr.aw (by assumption)) | (with_reducible refine Gr.bM (by assumption) ?_;(intro hh_;(try simp only [ui,aM,World.heap_drewN,aI] at hh_);omega)) | (with_reducible refine Gr.co (by assumption) ?_ ?_ <;> (intro hh_;(try simp only [ui,aM,World.heap_drewN,aI] at hh_);omega)) | exact aE (by assumption) (by assumption) | (with_reducible exact ar (by assumption) (by assumption) (by assumption)))) | (go_split_ands;(refine ⟨?_,?_,?_,?_⟩ <;> (first | (with_reducible exact aE (by assumption) (by assumption)) | (with_reducible exact Gr.aw (by assumption)) | (with_reducible refine Gr.bM (by assumption) ?_;(intro hh_;(try simp only [ui,aM,World.heap_drewN,aI] at hh_);omega)) | (with_reducible refine Gr.co (by assumption) ?_ ?_ <;> (intro hh_;(try simp only [ui,aM,World.heap_drewN,aI] at hh_);omega)) | exact aE (by assumption) (by assumption) | (with_reducible exact ar (by assumption) (by assumption) (by assumption))))) | go_keep) ((first
    | (go_at_call 143;(with_reducible refine (PA.out _ (hOB.out _ Bn.drew) (hOA.out _ Bn.drew)).mono ?_);rintro e w4 ⟨v4,rfl,ho4,hb4⟩;(have B4:=Bn.drew.trans (hb4.mono Bn.size));(have r4:=n3.drew.keep hb4);(have x1_:=aE hb4 (aW e1));(have x2_:=aE hb4 (aW e2));(have x3_:=aE hb4 (aW e3));(have x4_:=aE hb4 (aW e4));(have z4:wm.heap.size≤w4.heap.size:=hb4.size))
    | (go_at_call 133;(with_reducible refine (PT.out _ _ _ ho4).mono ?_);rintro e w5 ⟨vc,rfl,hoc,hbc⟩;obtain ⟨ac,capc,rfl,hmc,hvc⟩:=aF.view hoc;(have B5:=B4.trans (hbc.mono B4.size));(have r5:=r4.keep hbc);(have c0:=r5.c0);(have c1:=r5.c1);(have g0:=r5.f0);(have g1:=r5.f1);(have y1_:=aE hbc x1_);(have y2_:=aE hbc x2_);(have y3_:=aE hbc x3_);(have y4_:=aE hbc x4_);(clear hvc hmc))
    | fail "ARMS"))
   all_goals
    have hr:=cH (w:=w) (w.heap.size+1+1) _ (.bool s) (by omega) (Nat.lt_of_lt_of_le n3.size z4) hoc B5
    generalize (Wh.dig z.natAbs).length=n2_ at *
    go_wp2
    exact bodyPost_ret (v:=.agg #[.bool s,.slice ac n2_ capc]) (by simp [results,Tryz.results125,go_sem, *]) rfl (⟨_,rfl,hr.1,hr.2⟩)
  skip
  have PT:=uh (PT false _ hd)
  have PA:=uh (PA (-1) (Or.inr rfl) (by omega))
  have hr0:0≤Wh.sg3 (a.natAbs:Int) (b.natAbs:Int):=by unfold Wh.sg3;rw [if_neg (by omega)];split <;> omega
  generalize Wh.sg3 (a.natAbs:Int) (b.natAbs:Int)=rr at *
  have PO:=uh PO
  clear hlt hd hd' PT' PA'
  generalize (a.natAbs:Int)+-1*(b.natAbs:Int)=y at *
  generalize a+b=z at *
  generalize Wh.dig a.natAbs=xs at *
  generalize Wh.dig b.natAbs=ys at *
  generalize xs.length=l1 at *
  generalize ys.length=l2 at *
  generalize decide (z<0)=s at *
  have b1:=((af.new w (.bool false) (.slice aa l1 capa) 106).alloc (.cells #[.bool true,.slice ab l2 capb] 106)).alloc (.cells #[.bool false,.slice none 0 0] 106)
  have b2:=(af.new2 w (.cells #[.bool false,.slice aa l1 capa] 106) (.bool true) (.slice ab l2 capb) 106).alloc (.cells #[.bool false,.slice none 0 0] 106)
  have b3:=af.new2 (w.alloc (.cells #[.bool false,.slice aa l1 capa] 106)) (.cells #[.bool true,.slice ab l2 capb] 106) (.bool false) (.slice none 0 0) 106
  rw [ui] at b3
  have hB:=(((uk w.heap.size w).alloc (ul _) (.cells #[.bool false,.slice aa l1 capa] 106)).alloc (by rw [ui];omega) (.cells #[.bool true,.slice ab l2 capb] 106)).alloc (by rw [ui,ui];omega) (.cells #[.bool false,.slice none 0 0] 106)
  generalize hw3:((w.alloc (.cells #[.bool false,.slice aa l1 capa] 106)).alloc (.cells #[.bool true,.slice ab l2 capb] 106)).alloc (.cells #[.bool false,.slice none 0 0] 106)=w3 at *
  have i1:=b1.c0
  have i2:=b1.c1
  have i3:=b2.c0
  have i4:=b2.c1
  go_enter Tryz.func125,Tryz.ntmps125
  go_wp2_with (go_at_call 144;(with_reducible refine (PO.out _ (hOA.out _ hB) (hOB.out _ hB)).mono ?_);rintro e wm ⟨rfl,hbm⟩;(have n1:=b1.keep hbm);(have n2:=b2.keep hbm);(have n3:=b3.keep hbm);(have Bn:=hB.trans (hbm.mono hB.size)))
  clear i1 i2 i3 i4 b1 b2 b3 hbm
  have e1:=n1.c0
  have e2:=n1.c1
  have e3:=n2.c0
  have e4:=n2.c1
  go_region_held3 (fun W=>W.cell? ⟨w.heap.size,0,none⟩=some (.bool false)∧W.cell? ⟨w.heap.size,1,none⟩=some (.slice aa l1 capa)∧W.cell? ⟨w.heap.size+1,0,none⟩=some (.bool true)∧W.cell? ⟨w.heap.size+1,1,none⟩=some (.slice ab l2 capb)) (first | (refine ⟨?_,?_,?_,?_⟩ <;> (first | (with_reducible exact aE (by assumption) (by assumption)) | (with_reducible exact Gr.aw (by assumption)) | (with_reducible refine Gr.bM (by assumption) ?_;(intro hh_;(try simp only [ui,aM,World.heap_drewN,aI] at hh_);omega)) | (with_reducible refine Gr.co (by assumption) ?_ ?_ <;> (intro hh_;(try simp only [ui,aM,World.heap_drewN,aI] at hh_);omega)) | exact aE (by assumption) (by assumption) | (with_reducible exact ar (by assumption) (by assumption) (by assumption)))) | (go_split_ands;(refine ⟨?_,?_,?_,?_⟩ <;> (first | (with_reducible exact aE (by assumption) (by assumption)) | (with_reducible exact Gr.aw (by assumption)) | (with_reducible refine Gr.bM (by assumption) ?_;(intro hh_;(try simp only [ui,aM,World.heap_drewN,aI] at hh_);omega)) | (with_reducible refine Gr.co (by assumption) ?_ ?_ <;> (intro hh_;(try simp only [ui,aM,World.heap_drewN,aI] at hh_);omega)) | exact aE (by assumption) (by assumption) | (with_reducible exact ar (by assumption) (by assumption) (by assumption))))) | go_keep) ((first
   | (go_at_call 143;(with_reducible refine (PA.out _ (hOA.out _ Bn.drew) (hOB.out _ Bn.drew)).mono ?_);rintro e w4 ⟨v4,rfl,ho4,hb4⟩;(have B4:=Bn.drew.trans (hb4.mono Bn.size));(have r4:=n3.drew.keep hb4);(have x1_:=aE hb4 (aW e1));(have x2_:=aE hb4 (aW e2));(have x3_:=aE hb4 (aW e3));(have x4_:=aE hb4 (aW e4));(have z4:wm.heap.size≤w4.heap.size:=hb4.size))
   | (go_at_call 133;(with_reducible refine (PT.out _ _ _ ho4).mono ?_);rintro e w5 ⟨vc,rfl,hoc,hbc⟩;obtain ⟨ac,capc,rfl,hmc,hvc⟩:=aF.view hoc;(have B5:=B4.trans (hbc.mono B4.size));(have r5:=r4.keep hbc);(have c0:=r5.c0);(have c1:=r5.c1);(have g0:=r5.f0);(have g1:=r5.f1);(have y1_:=aE hbc x1_);(have y2_:=aE hbc x2_);(have y3_:=aE hbc x3_);(have y4_:=aE hbc x4_);(clear hvc hmc))
   | fail "ARMS"))
  all_goals
   have hr:=cH (w:=w) (w.heap.size+1+1) _ (.bool s) (by omega) (Nat.lt_of_lt_of_le n3.size z4) hoc B5
   generalize (Wh.dig z.natAbs).length=n2_ at *
   go_wp2
   exact bodyPost_ret (v:=.agg #[.bool s,.slice ac n2_ capc]) (by simp [results,Tryz.results125,go_sem, *]) rfl (⟨_,rfl,hr.1,hr.2⟩)
 skip
 have hd:=Wh.dU (a:=a) (b:=b) hs1 hs2
 have hd':=Wh.dU (a:=b) (b:=a) hs2 hs1
 rw [Int.add_comm b a] at hd'
 rw [hs1,hs2]
 clear hs1 hs2
 by_cases hlt:a.natAbs<b.natAbs
 ·skip
  have PT:=uh (PT' false _ hd')
  have PA:=uh (PA' (-1) (Or.inr rfl) (by omega))
  rw [Wh.fG (by omega)] at PO
  have PO:=uh PO
  clear hlt hd hd' PT' PA'
  generalize (b.natAbs:Int)+-1*(a.natAbs:Int)=y at *
  generalize a+b=z at *
  generalize Wh.dig a.natAbs=xs at *
  generalize Wh.dig b.natAbs=ys at *
  generalize xs.length=l1 at *
  generalize ys.length=l2 at *
  generalize decide (z<0)=s at *
  have b1:=((af.new w (.bool true) (.slice aa l1 capa) 106).alloc (.cells #[.bool false,.slice ab l2 capb] 106)).alloc (.cells #[.bool false,.slice none 0 0] 106)
  have b2:=(af.new2 w (.cells #[.bool true,.slice aa l1 capa] 106) (.bool false) (.slice ab l2 capb) 106).alloc (.cells #[.bool false,.slice none 0 0] 106)
  have b3:=af.new2 (w.alloc (.cells #[.bool true,.slice aa l1 capa] 106)) (.cells #[.bool false,.slice ab l2 capb] 106) (.bool false) (.slice none 0 0) 106
  rw [ui] at b3
  have hB:=(((uk w.heap.size w).alloc (ul _) (.cells #[.bool true,.slice aa l1 capa] 106)).alloc (by rw [ui];omega) (.cells #[.bool false,.slice ab l2 capb] 106)).alloc (by rw [ui,ui];omega) (.cells #[.bool false,.slice none 0 0] 106)
  generalize hw3:((w.alloc (.cells #[.bool true,.slice aa l1 capa] 106)).alloc (.cells #[.bool false,.slice ab l2 capb] 106)).alloc (.cells #[.bool false,.slice none 0 0] 106)=w3 at *
  have i1:=b1.c0
  have i2:=b1.c1
  have i3:=b2.c0
  have i4:=b2.c1
  go_enter Tryz.func125,Tryz.ntmps125
  go_wp2_with (go_at_call 144;(with_reducible refine (PO.out _ (hOA.out _ hB) (hOB.out _ hB)).mono ?_);rintro e wm ⟨rfl,hbm⟩;(have n1:=b1.keep hbm);(have n2:=b2.keep hbm);(have n3:=b3.keep hbm);(have Bn:=hB.trans (hbm.mono hB.size)))
  clear i1 i2 i3 i4 b1 b2 b3 hbm
  have e1:=n1.c0
  have e2:=n1.c1
  have e3:=n2.c0
  have e4:=n2.c1
  go_region_held3 (fun W=>W.cell? ⟨w.heap.size,0,none⟩=some (.bool true)∧W.cell? ⟨w.heap.size,1,none⟩=some (.slice aa l1 capa)∧W.cell? ⟨w.heap.size+1,0,none⟩=some (.bool false)∧W.cell? ⟨w.heap.size+1,1,none⟩=some (.slice ab l2 capb)) (first | (refine ⟨?_,?_,?_,?_⟩ <;> (first | (with_reducible exact aE (by assumption) (by assumption)) | (with_reducible exact Gr.aw (by assumption)) | (with_reducible refine Gr.bM (by assumption) ?_;(intro hh_;(try simp only [ui,aM,World.heap_drewN,aI] at hh_);omega)) | (with_reducible refine Gr.co (by assumption) ?_ ?_ <;> (intro hh_;(try simp only [ui,aM,World.heap_drewN,aI] at hh_);omega)) | exact aE (by assumption) (by assumption) | (with_reducible exact ar (by assumption) (by assumption) (by assumption)))) | (go_split_ands;(refine ⟨?_,?_,?_,?_⟩ <;> (first | (with_reducible exact aE (by assumption) (by assumption)) | (with_reducible exact Gr.aw (by assumption)) | (with_reducible refine Gr.bM (by assumption) ?_;(intro hh_;(try simp only [ui,aM,World.heap_drewN,aI] at hh_);omega)) | (with_reducible refine Gr.co (by assumption) ?_ ?_ <;> (intro hh_;(try simp only [ui,aM,World.heap_drewN,aI] at hh_);omega)) | exact aE (by assumption) (by assumption) | (with_reducible exact ar (by assumption) (by assumption) (by assumption))))) | go_keep) ((first
   | (go_at_call 143;(with_reducible refine (PA.out _ (hOB.out _ Bn.drew) (hOA.out _ Bn.drew)).mono ?_);rintro e w4 ⟨v4,rfl,ho4,hb4⟩;(have B4:=Bn.drew.trans (hb4.mono Bn.size));(have r4:=n3.drew.keep hb4);(have x1_:=aE hb4 (aW e1));(have x2_:=aE hb4 (aW e2));(have x3_:=aE hb4 (aW e3));(have x4_:=aE hb4 (aW e4));(have z4:wm.heap.size≤w4.heap.size:=hb4.size))
   | (go_at_call 133;(with_reducible refine (PT.out _ _ _ ho4).mono ?_);rintro e w5 ⟨vc,rfl,hoc,hbc⟩;obtain ⟨ac,capc,rfl,hmc,hvc⟩:=aF.view hoc;(have B5:=B4.trans (hbc.mono B4.size));(have r5:=r4.keep hbc);(have c0:=r5.c0);(have c1:=r5.c1);(have g0:=r5.f0);(have g1:=r5.f1);(have y1_:=aE hbc x1_);(have y2_:=aE hbc x2_);(have y3_:=aE hbc x3_);(have y4_:=aE hbc x4_);(clear hvc hmc))
   | fail "ARMS"))
  all_goals
   have hr:=cH (w:=w) (w.heap.size+1+1) _ (.bool s) (by omega) (Nat.lt_of_lt_of_le n3.size z4) hoc B5
   generalize (Wh.dig z.natAbs).length=n2_ at *
   go_wp2
   exact bodyPost_ret (v:=.agg #[.bool s,.slice ac n2_ capc]) (by simp [results,Tryz.results125,go_sem, *]) rfl (⟨_,rfl,hr.1,hr.2⟩)
 skip
 have PT:=uh (PT true _ hd)
 have PA:=uh (PA (-1) (Or.inr rfl) (by omega))
 have hr0:0≤Wh.sg3 (a.natAbs:Int) (b.natAbs:Int):=by unfold Wh.sg3;rw [if_neg (by omega)];split <;> omega
 generalize Wh.sg3 (a.natAbs:Int) (b.natAbs:Int)=rr at *
 have PO:=uh PO
 clear hlt hd hd' PT' PA'
 generalize (a.natAbs:Int)+-1*(b.natAbs:Int)=y at *
 generalize a+b=z at *
 generalize Wh.dig a.natAbs=xs at *
 generalize Wh.dig b.natAbs=ys at *
 generalize xs.length=l1 at *
 generalize ys.length=l2 at *
 generalize decide (z<0)=s at *
 have b1:=((af.new w (.bool true) (.slice aa l1 capa) 106).alloc (.cells #[.bool false,.slice ab l2 capb] 106)).alloc (.cells #[.bool false,.slice none 0 0] 106)
 have b2:=(af.new2 w (.cells #[.bool true,.slice aa l1 capa] 106) (.bool false) (.slice ab l2 capb) 106).alloc (.cells #[.bool false,.slice none 0 0] 106)
 have b3:=af.new2 (w.alloc (.cells #[.bool true,.slice aa l1 capa] 106)) (.cells #[.bool false,.slice ab l2 capb] 106) (.bool false) (.slice none 0 0) 106
 rw [ui] at b3
 have hB:=(((uk w.heap.size w).alloc (ul _) (.cells #[.bool true,.slice aa l1 capa] 106)).alloc (by rw [ui];omega) (.cells #[.bool false,.slice ab l2 capb] 106)).alloc (by rw [ui,ui];omega) (.cells #[.bool false,.slice none 0 0] 106)
 generalize hw3:((w.alloc (.cells #[.bool true,.slice aa l1 capa] 106)).alloc (.cells #[.bool false,.slice ab l2 capb] 106)).alloc (.cells #[.bool false,.slice none 0 0] 106)=w3 at *
 have i1:=b1.c0
 have i2:=b1.c1
 have i3:=b2.c0
 have i4:=b2.c1
 go_enter Tryz.func125,Tryz.ntmps125
 go_wp2_with (go_at_call 144;(with_reducible refine (PO.out _ (hOA.out _ hB) (hOB.out _ hB)).mono ?_);rintro e wm ⟨rfl,hbm⟩;(have n1:=b1.keep hbm);(have n2:=b2.keep hbm);(have n3:=b3.keep hbm);(have Bn:=hB.trans (hbm.mono hB.size)))
 clear i1 i2 i3 i4 b1 b2 b3 hbm
 have e1:=n1.c0
 have e2:=n1.c1
 have e3:=n2.c0
 have e4:=n2.c1
 go_region_held3 (fun W=>W.cell? ⟨w.heap.size,0,none⟩=some (.bool true)∧W.cell? ⟨w.heap.size,1,none⟩=some (.slice aa l1 capa)∧W.cell? ⟨w.heap.size+1,0,none⟩=some (.bool false)∧W.cell? ⟨w.heap.size+1,1,none⟩=some (.slice ab l2 capb)) (first | (refine ⟨?_,?_,?_,?_⟩ <;> (first | (with_reducible exact aE (by assumption) (by assumption)) | (with_reducible exact Gr.aw (by assumption)) | (with_reducible refine Gr.bM (by assumption) ?_;(intro hh_;(try simp only [ui,aM,World.heap_drewN,aI] at hh_);omega)) | (with_reducible refine Gr.co (by assumption) ?_ ?_ <;> (intro hh_;(try simp only [ui,aM,World.heap_drewN,aI] at hh_);omega)) | exact aE (by assumption) (by assumption) | (with_reducible exact ar (by assumption) (by assumption) (by assumption)))) | (go_split_ands;(refine ⟨?_,?_,?_,?_⟩ <;> (first | (with_reducible exact aE (by assumption) (by assumption)) | (with_reducible exact Gr.aw (by assumption)) | (with_reducible refine Gr.bM (by assumption) ?_;(intro hh_;(try simp only [ui,aM,World.heap_drewN,aI] at hh_);omega)) | (with_reducible refine Gr.co (by assumption) ?_ ?_ <;> (intro hh_;(try simp only [ui,aM,World.heap_drewN,aI] at hh_);omega)) | exact aE (by assumption) (by assumption) | (with_reducible exact ar (by assumption) (by assumption) (by assumption))))) | go_keep) ((first
  | (go_at_call 143;(with_reducible refine (PA.out _ (hOA.out _ Bn.drew) (hOB.out _ Bn.drew)).mono ?_);rintro e w4 ⟨v4,rfl,ho4,hb4⟩;(have B4:=Bn.drew.trans (hb4.mono Bn.size));(have r4:=n3.drew.keep hb4);(have x1_:=aE hb4 (aW e1));(have x2_:=aE hb4 (aW e2));(have x3_:=aE hb4 (aW e3));(have x4_:=aE hb4 (aW e4));(have z4:wm.heap.size≤w4.heap.size:=hb4.size))
  | (go_at_call 133;(with_reducible refine (PT.out _ _ _ ho4).mono ?_);rintro e w5 ⟨vc,rfl,hoc,hbc⟩;obtain ⟨ac,capc,rfl,hmc,hvc⟩:=aF.view hoc;(have B5:=B4.trans (hbc.mono B4.size));(have r5:=r4.keep hbc);(have c0:=r5.c0);(have c1:=r5.c1);(have g0:=r5.f0);(have g1:=r5.f1);(have y1_:=aE hbc x1_);(have y2_:=aE hbc x2_);(have y3_:=aE hbc x3_);(have y4_:=aE hbc x4_);(clear hvc hmc))
  | fail "ARMS"))
 all_goals
  have hr:=cH (w:=w) (w.heap.size+1+1) _ (.bool s) (by omega) (Nat.lt_of_lt_of_le n3.size z4) hoc B5
  generalize (Wh.dig z.natAbs).length=n2_ at *
  go_wp2
  exact bodyPost_ret (v:=.agg #[.bool s,.slice ac n2_ capc]) (by simp [results,Tryz.results125,go_sem, *]) rfl (⟨_,rfl,hr.1,hr.2⟩)
theorem jy (a b:Int) (va vb:Value) (w:World) (ba bb:Nat) (hoa:ae w ba va a) (hob:ae w bb vb b) (hl1:(Wh.dig a.natAbs).length≤10000) (hl2:(Wh.dig b.natAbs).length≤10000) :
  Calls Tryz.prog 145 #[.agg #[.bool (decide (a<0)),va],.agg #[.bool (decide (b<0)),vb]] w fun e w'=>∃ sl,e=.returned (.agg #[.bool (decide (a - b<0)),sl])∧ae w' w.heap.size sl (a - b)∧Below w.heap.size w w':=by
 obtain ⟨aa,capa,rfl,-,-⟩:=aF.view hoa
 obtain ⟨ab,capb,rfl,-,-⟩:=aF.view hob
 have hnl:(Wh.dig (-b).natAbs).length≤10000:=by rw [Int.natAbs_neg];exact hl2
 have PM:=fun W (h:aF W bb (.slice ab (Wh.dig b.natAbs).length capb) (Wh.dig b.natAbs))=>gM b (.slice ab (Wh.dig b.natAbs).length capb) W bb h (by omega)
 have PA:=fun vb' W bb' (h1:aF W ba (.slice aa (Wh.dig a.natAbs).length capa) (Wh.dig a.natAbs)) (h2:ae W bb' vb' (-b))=>iC a (-b) (.slice aa (Wh.dig a.natAbs).length capa) vb' W ba bb' h1 h2 hl1 hnl
 rw [←Int.sub_eq_add_neg] at PA
 have hOA:Hid (∀ W,Below w.heap.size w W→aF W ba (.slice aa (Wh.dig a.natAbs).length capa) (Wh.dig a.natAbs)):=uh fun W h=>aF.below hoa h
 have hOB:Hid (∀ W,Below w.heap.size w W→aF W bb (.slice ab (Wh.dig b.natAbs).length capb) (Wh.dig b.natAbs)):=uh fun W h=>aF.below hob h
 clear hoa hob hnl
 generalize decide (a<0)=s1 at *
 generalize decide (b<0)=s2 at *
 generalize a - b=z at *
 generalize -b=nb at *
 generalize Wh.dig a.natAbs=xs at *
 generalize Wh.dig b.natAbs=ys at *
 generalize xs.length=l1 at *
 generalize ys.length=l2 at *
 generalize decide (z<0)=s at *
 generalize decide (nb<0)=s3 at *
 have PM:=uh PM
 have PA:=uh PA
 have n1:=((af.new w (.bool s1) (.slice aa l1 capa) 106).alloc (.cells #[.bool s2,.slice ab l2 capb] 106)).alloc (.cells #[.bool false,.slice none 0 0] 106)
 have n2:=(af.new2 w (.cells #[.bool s1,.slice aa l1 capa] 106) (.bool s2) (.slice ab l2 capb) 106).alloc (.cells #[.bool false,.slice none 0 0] 106)
 have n3:=af.new2 (w.alloc (.cells #[.bool s1,.slice aa l1 capa] 106)) (.cells #[.bool s2,.slice ab l2 capb] 106) (.bool false) (.slice none 0 0) 106
 rw [ui] at n3
 have Bn:=(((uk w.heap.size w).alloc (ul _) (.cells #[.bool s1,.slice aa l1 capa] 106)).alloc (by rw [ui];omega) (.cells #[.bool s2,.slice ab l2 capb] 106)).alloc (by rw [ui,ui];omega) (.cells #[.bool false,.slice none 0 0] 106)
 generalize hw3:((w.alloc (.cells #[.bool s1,.slice aa l1 capa] 106)).alloc (.cells #[.bool s2,.slice ab l2 capb] 106)).alloc (.cells #[.bool false,.slice none 0 0] 106)=w3 at *
 have e1:=n1.c0
 have e2:=n1.c1
 have e3:=n2.c0
 have e4:=n2.c1
 go_enter Tryz.func145,Tryz.ntmps145
 go_wp2
 go_region_held3 (fun W=>W.cell? ⟨w.heap.size,0,none⟩=some (.bool s1)∧W.cell? ⟨w.heap.size,1,none⟩=some (.slice aa l1 capa)∧W.cell? ⟨w.heap.size+1,0,none⟩=some (.bool s2)∧W.cell? ⟨w.heap.size+1,1,none⟩=some (.slice ab l2 capb)) (first | (refine ⟨?_,?_,?_,?_⟩ <;> (first | (with_reducible exact aE (by assumption) (by assumption)) | (with_reducible exact Gr.aw (by assumption)) | (with_reducible refine Gr.bM (by assumption) ?_;(intro hh_;(try simp only [ui,aM,World.heap_drewN,aI] at hh_);omega)) | (with_reducible refine Gr.co (by assumption) ?_ ?_ <;> (intro hh_;(try simp only [ui,aM,World.heap_drewN,aI] at hh_);omega)) | exact aE (by assumption) (by assumption) | (with_reducible exact ar (by assumption) (by assumption) (by assumption)))) | (go_split_ands;(refine ⟨?_,?_,?_,?_⟩ <;> (first | (with_reducible exact aE (by assumption) (by assumption)) | (with_reducible exact Gr.aw (by assumption)) | (with_reducible refine Gr.bM (by assumption) ?_;(intro hh_;(try simp only [ui,aM,World.heap_drewN,aI] at hh_);omega)) | (with_reducible refine Gr.co (by assumption) ?_ ?_ <;> (intro hh_;(try simp only [ui,aM,World.heap_drewN,aI] at hh_);omega)) | exact aE (by assumption) (by assumption) | (with_reducible exact ar (by assumption) (by assumption) (by assumption))))) | go_keep) ((first
  | (go_at_call 129;(with_reducible refine (PM.out _ (hOB.out _ Bn.drew)).mono ?_);rintro e w4 ⟨v4,rfl,ho4,hb4⟩;(have B4:=Bn.drew.trans (hb4.mono Bn.size));(have r4:=n3.drew.keep hb4);(have x1_:=aE hb4 (aW e1));(have x2_:=aE hb4 (aW e2));(have x3_:=aE hb4 (aW e3));(have x4_:=aE hb4 (aW e4));(have z4:w3.heap.size≤w4.heap.size:=hb4.size))
  | (go_at_call 125;(with_reducible refine (PA.out _ _ _ (hOA.out _ B4) ho4).mono ?_);rintro e w5 ⟨vc,rfl,hoc,hbc⟩;obtain ⟨ac,capc,rfl,hmc,hvc⟩:=aF.view hoc;(have B5:=B4.trans (hbc.mono B4.size));(have r5:=r4.keep hbc);(have c0:=r5.c0);(have c1:=r5.c1);(have g0:=r5.f0);(have g1:=r5.f1);(have y1_:=aE hbc x1_);(have y2_:=aE hbc x2_);(have y3_:=aE hbc x3_);(have y4_:=aE hbc x4_);(clear hvc hmc))
  | fail "ARMS"))
 all_goals
  have hr:=cH (w:=w) (w.heap.size+1+1) _ (.bool s) (by omega) (Nat.lt_of_lt_of_le n3.size z4) hoc B5
  generalize (Wh.dig z.natAbs).length=n2_ at *
  go_wp2
  exact bodyPost_ret (v:=.agg #[.bool s,.slice ac n2_ capc]) (by simp [results,Tryz.results145,go_sem, *]) rfl (⟨_,rfl,hr.1,hr.2⟩)
theorem jN (a n:Int) (va:Value) (w:World) (ba:Nat) (hoa:ae w ba va a) (hl1:(Wh.dig a.natAbs).length≤10000) (hn1:-1000000000000000000≤n) (hn2:n≤1000000000000000000) :
  Calls Tryz.prog 81 #[.agg #[.bool (decide (a<0)),va],.int .i64 n] w fun e w'=>∃ sl,e=.returned (.agg #[.bool (decide (a*n<0)),sl])∧ae w' w.heap.size sl (a*n)∧Below w.heap.size w w':=by
 obtain ⟨aa,capa,rfl,-,-⟩:=aF.view hoa
 have hnl:(Wh.dig n.natAbs).length≤10000:=Nat.le_trans (Wh.dE (k:=5) (by omega)) (by decide)
 have PM:=fun W=>bX n W hn1 hn2
 have PA:=fun vb' W bb' (h1:aF W ba (.slice aa (Wh.dig a.natAbs).length capa) (Wh.dig a.natAbs)) (h2:ae W bb' vb' n)=>cV a n (.slice aa (Wh.dig a.natAbs).length capa) vb' W ba bb' h1 h2 hl1 hnl
 have hOA:Hid (∀ W,Below w.heap.size w W→aF W ba (.slice aa (Wh.dig a.natAbs).length capa) (Wh.dig a.natAbs)):=uh fun W h=>aF.below hoa h
 clear hoa hnl hn1 hn2
 generalize decide (a<0)=s1 at *
 generalize a*n=z at *
 generalize Wh.dig a.natAbs=xs at *
 generalize xs.length=l1 at *
 generalize decide (z<0)=s at *
 generalize decide (n<0)=s3 at *
 have PM:=uh PM
 have PA:=uh PA
 have n1:=(af.new w (.bool s1) (.slice aa l1 capa) 106).alloc (.cells #[.bool false,.slice none 0 0] 106)
 have n3:=af.new2 w (.cells #[.bool s1,.slice aa l1 capa] 106) (.bool false) (.slice none 0 0) 106
 have Bn:=((uk w.heap.size w).alloc (ul _) (.cells #[.bool s1,.slice aa l1 capa] 106)).alloc (by rw [ui];omega) (.cells #[.bool false,.slice none 0 0] 106)
 generalize hw3:(w.alloc (.cells #[.bool s1,.slice aa l1 capa] 106)).alloc (.cells #[.bool false,.slice none 0 0] 106)=w3 at *
 have e1:=n1.c0
 have e2:=n1.c1
 go_enter Tryz.func81,Tryz.ntmps81
 go_wp2
 go_region_held3 (fun W=>W.cell? ⟨w.heap.size,0,none⟩=some (.bool s1)∧W.cell? ⟨w.heap.size,1,none⟩=some (.slice aa l1 capa)) (first | (refine ⟨?_,?_⟩ <;> (first | (with_reducible exact aE (by assumption) (by assumption)) | (with_reducible exact Gr.aw (by assumption)) | (with_reducible refine Gr.bM (by assumption) ?_;(intro hh_;(try simp only [ui,aM,World.heap_drewN,aI] at hh_);omega)) | (with_reducible refine Gr.co (by assumption) ?_ ?_ <;> (intro hh_;(try simp only [ui,aM,World.heap_drewN,aI] at hh_);omega)) | exact aE (by assumption) (by assumption) | (with_reducible exact ar (by assumption) (by assumption) (by assumption)))) | (go_split_ands;(refine ⟨?_,?_⟩ <;> (first | (with_reducible exact aE (by assumption) (by assumption)) | (with_reducible exact Gr.aw (by assumption)) | (with_reducible refine Gr.bM (by assumption) ?_;(intro hh_;(try simp only [ui,aM,World.heap_drewN,aI] at hh_);omega)) | (with_reducible refine Gr.co (by assumption) ?_ ?_ <;> (intro hh_;(try simp only [ui,aM,World.heap_drewN,aI] at hh_);omega)) | exact aE (by assumption) (by assumption) | (with_reducible exact ar (by assumption) (by assumption) (by assumption))))) | go_keep) ((first
  | (go_at_call 77;(with_reducible refine (PM.out _).mono ?_);rintro e w4 ⟨v4,rfl,ho4,hb4⟩;(have B4:=Bn.drew.trans (hb4.mono Bn.size));(have r4:=n3.drew.keep hb4);(have x1_:=aE hb4 (aW e1));(have x2_:=aE hb4 (aW e2));(have z4:w3.heap.size≤w4.heap.size:=hb4.size))
  | (go_at_call 76;(with_reducible refine (PA.out _ _ _ (hOA.out _ B4) ho4).mono ?_);rintro e w5 ⟨vc,rfl,hoc,hbc⟩;obtain ⟨ac,capc,rfl,hmc,hvc⟩:=aF.view hoc;(have B5:=B4.trans (hbc.mono B4.size));(have r5:=r4.keep hbc);(have c0:=r5.c0);(have c1:=r5.c1);(have g0:=r5.f0);(have g1:=r5.f1);(have y1_:=aE hbc x1_);(have y2_:=aE hbc x2_);(clear hvc hmc))
  | fail "ARMS"))
 all_goals
  have hr:=cH (w:=w) (w.heap.size+1) _ (.bool s) (by omega) (Nat.lt_of_lt_of_le n3.size z4) hoc B5
  generalize (Wh.dig z.natAbs).length=n2_ at *
  go_wp2
  exact bodyPost_ret (v:=.agg #[.bool s,.slice ac n2_ capc]) (by simp [results,Tryz.results81,go_sem, *]) rfl (⟨_,rfl,hr.1,hr.2⟩)
namespace Wh
theorem oO:∀ (l:List Int) (j:Nat) (t y:Int),l[j]?=some t→val (l.set j y)=val l+10000 ^ j*(y - t)
 | [],j,t,y,h=>by simp at h
 | x :: l,0,t,y,h=>by
  obtain rfl:x=t:=by simpa using h
  show y+10000*val l=x+10000*val l+10000 ^ 0*(y - x)
  rw [Int.pow_zero]
  omega
 | x :: l,j+1,t,y,h=>by
  have h':l[j]?=some t:=by simpa using h
  show x+10000*val (l.set j y)=x+10000*val l+10000 ^ (j+1)*(y - t)
  rw [oO l j t y h',Int.pow_succ]
  grind
structure fv (a b o:List Int) (x:Int) (i k:Nat):Prop where
 len:o.length=a.length+b.length
 eq:val o=val (a.take i)*val b+10000 ^ i*(x*val (b.take k))
 bd:∀ (j:Nat) (t:Int),o[j]?=some t→0≤t∧t≤(if j<i+k then (i:Int)+1 else i)*99980001
theorem fv.step {a b o:List Int} {x y t:Int} {i k:Nat} (h:fv a b o x i k) (hx:lim x) (hb:bG b) (hy:b[k]?=some y) (ht:o[i+k]?=some t):(0≤t∧t≤(i:Int)*99980001)∧fv a b (o.set (i+k) (t+x*y)) x i (k+1):=by
 have hm:=kH hx (hb y (List.mem_of_getElem? hy))
 have hb0:=h.bd _ _ ht
 rw [if_neg (Nat.lt_irrefl _)] at hb0
 refine ⟨hb0,⟨by rw [List.length_set,h.len],?_,?_⟩⟩
 ·rw [oO o _ _ _ ht,h.eq,cF hy,Int.pow_add]
  grind
 intro j t' hj
 by_cases hjk:j=i+k
 ·subst hjk
  have hlt:=(List.getElem?_eq_some_iff.1 ht).1
  rw [List.getElem?_set_self hlt] at hj
  obtain rfl:=Option.some.inj hj
  rw [if_pos (by omega)]
  omega
 rw [List.getElem?_set_ne (by omega)] at hj
 have:=h.bd j t' hj
 by_cases hlt:j<i+k
 ·rw [if_pos hlt] at this;rw [if_pos (by omega)];exact this
 rw [if_neg hlt] at this;rw [if_neg (by omega)];exact this
theorem fv.row {a b o:List Int} {x:Int} {i:Nat} (h:fv a b o x i b.length) (hx:a[i]?=some x) (z:Int):fv a b o z (i+1) 0:=by
 refine ⟨h.len,?_,?_⟩
 ·rw [h.eq,List.take_length,cF hx]
  simp [val]
  grind
 intro j t hj
 have:=h.bd j t hj
 have hi:((i+1:Nat):Int)=(i:Int)+1:=by omega
 rw [hi]
 by_cases h1:j<i+1+0
 ·rw [if_pos h1]
  split at this <;> omega
 rw [if_neg h1]
 split at this <;> omega
theorem fv.start (a b:List Int) (x:Int):fv a b (List.replicate (a.length+b.length) 0) x 0 0:=by
 refine ⟨List.length_replicate,by rw [rc];simp [val],?_⟩
 intro j t hj
 rw [List.getElem?_replicate] at hj
 split at hj
 ·obtain rfl:=Option.some.inj hj
  split <;> simp
 cases hj
structure iQ (o0 o:List Int) (i:Nat) (c:Int):Prop where
 len:o.length=o0.length
 eq:val (o.take i)+10000 ^ i*c=val (o0.take i)
 rest:o.drop i=o0.drop i
 ls:bG (o.take i)
 c0:0≤c∧c≤1000000000
theorem iQ.start (o:List Int):iQ o o 0 0 where
 len:=rfl
 eq:=by simp
 rest:=rfl
 ls:=fun x hx=>by simp at hx
 c0:=by omega
theorem iQ.tj {o0 o:List Int} {i:Nat} {c:Int} (h:iQ o0 o i c):o[i]?=o0[i]?:=by
 have:=congrArg (fun l:List Int=>l[0]?) h.rest
 simpa [List.getElem?_drop] using this
theorem iQ.step {o0 o:List Int} {i:Nat} {c t:Int} (h:iQ o0 o i c) (ht:o0[i]?=some t) (hb:0≤t∧t≤1000000000000):iQ o0 (o.set i ((t+c) % 10000)) (i+1) ((t+c) / 10000):=by
 have hk:=(List.getElem?_eq_some_iff.1 ht).1
 have hc:=h.c0
 have htk:(o.set i ((t+c) % 10000)).take i=o.take i:=by
  rw [List.take_set,List.set_eq_of_length_le (by rw [List.length_take];omega)]
 have hsk:(o.set i ((t+c) % 10000))[i]?=some ((t+c) % 10000):=List.getElem?_set_self (by rw [h.len];exact hk)
 refine ⟨by rw [List.length_set,h.len],?_,?_,?_,by omega⟩
 ·rw [cF hsk,htk,cF ht,Int.pow_succ]
  have e:=h.eq
  have hd:=Int.mul_ediv_add_emod (t+c) 10000
  generalize (t+c) / 10000=q at *
  generalize (t+c) % 10000=r at *
  generalize (10000:Int) ^ i=P at *
  generalize val (o.take i)=v1 at *
  generalize val (o0.take i)=v2 at *
  grind
 ·rw [List.drop_set_of_lt (Nat.lt_succ_self i)]
  have:=congrArg (List.drop 1) h.rest
  rwa [List.drop_drop,List.drop_drop] at this
 rw [List.take_add_one,hsk,htk]
 refine cO h.ls fun z hz=>?_
 simp only [Option.toList_some,List.mem_singleton] at hz
 subst hz
 unfold lim
 omega
theorem iQ.fin {o0 o:List Int} {n:Nat} {c v:Int} (h:iQ o0 o n c) (hn:o0.length=n) (hv:val o0=v) (hlt:v<10000 ^ n):val o=v∧bG o:=by
 have e:=h.eq
 have hl:=h.ls
 have l1:=h.len
 rw [List.take_of_length_le (by omega),List.take_of_length_le (by omega),hv] at e
 rw [List.take_of_length_le (by omega)] at hl
 have o1:=cc hl
 have hp:=pow_pos n
 have hc:=h.c0
 refine ⟨?_,hl⟩
 by_cases h0:c=0
 ·subst h0;rw [Int.mul_zero] at e;omega
 have:=Int.mul_le_mul_of_nonneg_left (show 1≤c by omega) (Int.le_of_lt hp)
 omega
end Wh
theorem Wh.fv.chg {a b o:List Int} {x:Int} {i:Nat} (h:fv a b o x i 0) (z:Int):fv a b o z i 0:=
 ⟨h.len,by rw [h.eq];simp [val],h.bd⟩
theorem db (a b:Int) (va vb:Value) (w:World) (ba bb:Nat) (hoa:ae w ba va a) (hob:ae w bb vb b) (hl1:(Wh.dig a.natAbs).length≤10000) (hl2:(Wh.dig b.natAbs).length≤10000) :
  Calls Tryz.prog 126 #[.agg #[.bool (decide (a<0)),va],.agg #[.bool (decide (b<0)),vb]] w fun e w'=>∃ sl,e=.returned (.agg #[.bool (decide (a*b<0)),sl])∧ae w' w.heap.size sl (a*b)∧Below w.heap.size w w':=by
 obtain ⟨aa,capa,rfl,hma,hva⟩:=aF.seen hoa
 obtain ⟨ab,capb,rfl,hmb,hvb⟩:=aF.seen hob
 have hva:=uh hva
 have hvb:=uh hvb
 have hla:=uh (Wh.ai a.natAbs)
 have hlb:=uh (Wh.ai b.natAbs)
 have PT:=fun W v base ho=>fI (a*b) ((a.natAbs:Int)*(b.natAbs:Int)) ((Wh.dig a.natAbs).length+(Wh.dig b.natAbs).length+1) (decide (a<0) != decide (b<0)) v W base ho (by omega) (Wh.nw a b)
 have hpr:Hid (∀ (x y:List Int),x=Wh.dig a.natAbs→y=Wh.dig b.natAbs→Wh.val x*Wh.val y=(a.natAbs:Int)*(b.natAbs:Int)):=uh fun x y h1 h2=>by rw [h1,h2,Wh.bI,Wh.bI]
 have hpr:=uh (hpr.out _ _ rfl rfl)
 generalize decide (a<0)=s1 at *
 generalize decide (b<0)=s2 at *
 generalize (a.natAbs:Int)*(b.natAbs:Int)=y at *
 generalize a*b=z at *
 generalize decide (z<0)=s at *
 generalize Wh.dig a.natAbs=xs at *
 generalize Wh.dig b.natAbs=ys at *
 clear hma hmb hoa hob
 have b1:=((af.new w (.bool s1) (.slice aa xs.length capa) 106).alloc (.cells #[.bool s2,.slice ab ys.length capb] 106)).alloc (.cells #[.bool false,.slice none 0 0] 106)
 have b2:=(af.new2 w (.cells #[.bool s1,.slice aa xs.length capa] 106) (.bool s2) (.slice ab ys.length capb) 106).alloc (.cells #[.bool false,.slice none 0 0] 106)
 have b3:=af.new2 (w.alloc (.cells #[.bool s1,.slice aa xs.length capa] 106)) (.cells #[.bool s2,.slice ab ys.length capb] 106) (.bool false) (.slice none 0 0) 106
 rw [ui] at b3
 have hB:=(((uk w.heap.size w).alloc (ul _) (.cells #[.bool s1,.slice aa xs.length capa] 106)).alloc (by rw [ui];omega) (.cells #[.bool s2,.slice ab ys.length capb] 106)).alloc (by rw [ui,ui];omega) (.cells #[.bool false,.slice none 0 0] 106)
 generalize hw3:((w.alloc (.cells #[.bool s1,.slice aa xs.length capa] 106)).alloc (.cells #[.bool s2,.slice ab ys.length capb] 106)).alloc (.cells #[.bool false,.slice none 0 0] 106)=w3 at *
 obtain ⟨w4,hrun,hown1,hg1⟩:=jh w3 (xs.length+ys.length) (by omega)
 rw [show ((xs.length+ys.length:Nat):Int)=(xs.length:Int)+(ys.length:Int) by omega] at hrun
 have hb4:Below w3.heap.size w3 w4:=cU hg1 (ul _) (fun k hk=>by cases hk)
 have hB3:=uh hB
 have e2:=b1.c1
 have e4:=b2.c1
 have k2:=b1.keep hb4
 have k4:=b2.keep hb4
 have f2:=k2.c1
 have f4:=k4.c1
 clear hg1
 go_enter Tryz.func126,Tryz.ntmps126
 go_wp2
 have b1h:=uh b1
 have b2h:=uh b2
 have b3h:=uh b3
 clear e2 e4 k2 k4 f2 f4 b1 b2 b3 hB
 go_loopw [6,7,8,9,24] (fun _ _ _ _ vi wr=>∃ (i:Nat) (o:List Int),i≤xs.length∧vi=.int .i64 i∧aF wr w3.heap.size (.slice (some ⟨w3.heap.size,0,none⟩) (xs.length+ys.length) (xs.length+ys.length)) o∧Wh.fv xs ys o 0 i 0∧Below w3.heap.size w3 wr) (fun _ _ _ _ vi _=>xs.length - (intOf vi).toNat)
 case atStart=>exact ⟨0,List.replicate (xs.length+ys.length) 0,Nat.zero_le _,rfl,hown1,Wh.fv.start xs ys 0,hb4⟩
 case round=>
 clear hown1 hb4
 obtain ⟨i,o,hi,rfl,hown,hsi,hbr⟩:=hrel
 have c1:=b1h.out.dI hbr b1h.out.size
 have c2:=b2h.out.dI hbr b2h.out.size
 have c3:=b3h.out.dI hbr b3h.out.size
 have hwr:Below w.heap.size w wr:=hB3.out.trans (hbr.mono hB3.out.size)
 by_cases hlt:i<xs.length
 ·obtain ⟨ga,x,ea,hga,hxa,hca⟩:=hva.out i hlt
  subst ea
  have hca2:=aE hwr hca
  have hlx:=uh (hla.out x (List.mem_of_getElem? hxa.out))
  have hsx:=hsi.chg x
  have d2:=c1.c1
  have d4:=c2.c1
  clear hca c1 c2 c3 hwr hsi
  go_wp2
  go_loopw [8,9,32] (fun _ _ vk wq=>∃ (k:Nat) (p:List Int),k≤ys.length∧vk=.int .i64 k∧aF wq w3.heap.size (.slice (some ⟨w3.heap.size,0,none⟩) (xs.length+ys.length) (xs.length+ys.length)) p∧Wh.fv xs ys p x i k∧Below w3.heap.size w3 wq) (fun _ _ vk _=>ys.length - (intOf vk).toNat)
  case atStart=>exact ⟨0,o,Nat.zero_le _,rfl,hown,hsx,hbr⟩
  case round=>
  clear hown hbr hca2 d2 d4 hsx
  obtain ⟨k,p,hk,rfl,hown,hsi,hbq⟩:=hrel
  have hwq:Below w.heap.size w wr:=hB3.out.trans (hbq.mono hB3.out.size)
  by_cases hkt:k<ys.length
  ·obtain ⟨gb,yb,eb,hgb,hxb,hcb⟩:=hvb.out k hkt
   subst eb
   have hcb:=aE hwq hcb
   have hpl:=hsi.len
   obtain ⟨t,ht⟩:∃ t,p[i+k]?=some t:=⟨_,List.getElem?_eq_getElem (by omega)⟩
   have hS:=hsi.step hlx.out hlb.out hxb.out ht
   have hm:=Wh.kH hlx.out (hlb.out yb (List.mem_of_getElem? hxb.out))
   have hc0:=aF.cellAt hpl.symm hown ht
   have hf0:wr.frozen? ⟨w3.heap.size,i+k,none⟩=false:=eS hpl hown (i+k)
   have hO:=uh (aF.set (j:=i+k) hpl.symm hown (t+x*yb) rfl)
   have htb:=hS.1
   have hS2:=uh hS.2
   have hbs2:=uh hbq
   have hzq:w3.heap.size<wr.heap.size:=World.block_lt_of_cell? wr _ hc0
   clear hS hsi hpl ht hown hxb
   generalize hpb:x*yb=pb at *
   go_wp2
   go_roundw
   case rel=>exact ⟨k+1,_,by omega,by go_num,hO.out.1,hS2.out,hbs2.out.setCell (ul _) _⟩
   case measure=>simp [intOf];omega
  obtain rfl:k=ys.length:=by omega
  have hrow:=uh (hsi.row hxa.out 0)
  have hown:=uh hown
  clear hsi
  go_wp2
  go_roundw
  case rel=>exact ⟨i+1,p,by omega,by go_num,hown.out,hrow.out,hbq⟩
  case measure=>simp [intOf];omega
 obtain rfl:i=xs.length:=by omega
 have hvo:Hid (Wh.val o=y):=uh (by rw [hsi.eq,List.take_length,←hpr.out];simp [Wh.val])
 have hyb:Hid (y<10000 ^ (xs.length+ys.length)):=uh (by rw [←hpr.out];exact Wh.nz hla.out hlb.out (ul _))
 have hbd:Hid (∀ (j:Nat) (t:Int),o[j]?=some t→0≤t∧t≤1000000000000):=uh fun j t hj=>by
  have:=hsi.bd j t hj
  split at this <;> omega
 have hol:=uh hsi.len
 have d1:=c1.c0
 have d3:=c2.c0
 clear hsi
 go_wp2
 clear d1 d3 c1 c2 c3 hwr
 go_loopw [10,11,12,52] (fun vc _ _ vi wq=>∃ (j:Nat) (p:List Int) (c:Int),j≤(xs.length+ys.length)∧vi=.int .i64 j∧vc=.int .i64 c∧aF wq w3.heap.size (.slice (some ⟨w3.heap.size,0,none⟩) (xs.length+ys.length) (xs.length+ys.length)) p∧Wh.iQ o p j c∧Below w3.heap.size w3 wq) (fun _ _ _ vi _=>(xs.length+ys.length) - (intOf vi).toNat)
 case atStart=>exact ⟨0,o,0,Nat.zero_le _,rfl,rfl,hown,Wh.iQ.start o,hbr⟩
 case round=>
 clear hown hbr
 obtain ⟨j,p,c,hj,rfl,rfl,hown,hki,hbq⟩:=hrel
 by_cases hjt:j<(xs.length+ys.length)
 ·obtain ⟨t,ht⟩:∃ t,o[j]?=some t:=⟨_,List.getElem?_eq_getElem (by rw [hol.out];exact hjt)⟩
  have hpl:=hki.len.trans hol.out
  have hpk:=hki.tj.trans ht
  have hc0:=aF.cellAt hpl.symm hown hpk
  have hf0:wr.frozen? ⟨w3.heap.size,j,none⟩=false:=eS hpl hown j
  have htb:=hbd.out _ _ ht
  have hcr:=hki.c0
  have hS2:=uh (hki.step ht htb)
  have hO:=uh (aF.set (j:=j) hpl.symm hown ((t+c) % 10000) rfl)
  have t1:Int.tmod (t+c) 10000=(t+c) % 10000:=Int.tmod_eq_emod_of_nonneg (by omega)
  have t2:Int.tdiv (t+c) 10000=(t+c) / 10000:=Int.tdiv_eq_ediv_of_nonneg (by omega)
  have hrr:0≤(t+c) % 10000∧(t+c) % 10000<10000:=by omega
  have hqq:0≤(t+c) / 10000∧(t+c) / 10000≤1000000000:=by omega
  have hbs2:=uh hbq
  have hzq:w3.heap.size<wr.heap.size:=World.block_lt_of_cell? wr _ hc0
  clear hki hpl hpk ht hown
  generalize (t+c) % 10000=r at *
  generalize (t+c) / 10000=qq at *
  go_wp2
  go_roundw
  case rel=>exact ⟨j+1,_,_,by omega,by go_num,by go_num,hO.out.1,hS2.out,hbs2.out.setCell (ul _) _⟩
  case measure=>simp [intOf];omega
 have e:j=(xs.length+ys.length):=by omega
 subst e
 have hf:=hki.fin hol.out hvo.out hyb.out
 have hpl:=hki.len.trans hol.out
 have hov:Hid (iS wr w3.heap.size (.slice (some ⟨w3.heap.size,0,none⟩) (xs.length+ys.length) (xs.length+ys.length)) y (xs.length+ys.length+1)):=uh ⟨p,hown,hf.2,hf.1,by rw [hpl];omega⟩
 have c1:=b1h.out.dI hbq b1h.out.size
 have c2:=b2h.out.dI hbq b2h.out.size
 have c3:=b3h.out.dI hbq b3h.out.size
 have hwr:Below w.heap.size w wr:=hB3.out.trans (hbq.mono hB3.out.size)
 have d1:=c1.c0
 have d3:=c2.c0
 clear hki hown hf hpl
 rw [show (s1 != s2)=!(s1 == s2) from rfl] at PT
 have PT:=uh PT
 go_wp2_with (go_at_call 133;(with_reducible refine (PT.out _ _ _ hov.out).mono ?_);rintro e w5 ⟨vc,rfl,hoc,hbc⟩;obtain ⟨ac,capc,rfl,hmc,hvc⟩:=aF.view hoc;(have r5:=c3.keep hbc);(have p0:=r5.c0);(have p1:=r5.c1);(have g0:=r5.f0);(have g1:=r5.f1);(clear hvc hmc))
 have hr:=cH (w:=w) (w.heap.size+1+1) _ (.bool s) (by omega) c3.size hoc (hwr.trans (hbc.mono hwr.size))
 generalize (Wh.dig z.natAbs).length=n2_ at *
 exact bodyPost_ret (v:=.agg #[.bool s,.slice ac n2_ capc]) (by simp [results,Tryz.results126,go_sem, *]) rfl (⟨_,rfl,hr.1,hr.2⟩)
end
end Go.Proofs.YtgfkcoablfjbcaaGreatDoor
