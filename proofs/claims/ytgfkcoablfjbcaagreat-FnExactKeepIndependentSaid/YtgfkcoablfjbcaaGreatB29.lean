/-
  Joined texts: contracts and plain lemmas.
-/
import Derived.Test.YtgfkcoablfjbcaaGreatB1
import Derived.Test.YtgfkcoablfjbcaaGreatB28
import Derived.Test.YtgfkcoablfjbcaaGreatRows
import Derived.WalkKit
import Derived.ProofKit
import Derived.OpenShut
import Derived.Lib.SmallJoins
import Derived.Below
import Derived.Carry
import Derived.Deep.Slices
set_option linter.unusedSimpArgs false
set_option linter.unusedVariables false
set_option maxRecDepth 100000
set_option maxHeartbeats 8000000
namespace Go.Proofs.YtgfkcoablfjbcaaGreat
section
open Go.RowKit Go.Shelf
theorem fP (a b:Int) (v:Value) (l:List Pt) (w:World) (hx:dh w v l) (hn:l.length≤4000000) :
  Calls Tryz.prog 9 #[.agg #[.int .i64 a,.int .i64 b],v] w fun e w'=>∃ v',e=.returned (.tuple #[v',.bool (M.lK a b l)])∧aF w' w.heap.size v' (M.kpV a b l)∧Below w.heap.size w w':=by
 obtain ⟨sa,cap,rfl,hv⟩:=hx
 have hx:dh w (.slice sa l.length cap) l:=⟨sa,cap,rfl,hv⟩
 have PL:=fun W h=>sV a b (.slice sa l.length cap) l W h hn
 replace hx:=xL hx
 obtain ⟨wc,hw3,C,B⟩:=iX w #[.int .i64 a,.int .i64 b] 29
 have hxc:=xL (hx.out.below B)
 have C_c0:=C.box.c0
 have C_c1:=C.box.c1
 cases hp:M.cY a b l with
 | false=>
  rw [hp] at PL
  have hfin:=xL (M.sm hp)
  replace PL:=xL PL
  clear hp
  go_enter Tryz.func9,Tryz.ntmps9
  go_wp2_with (go_at_call 32;(with_reducible refine (PL.out _ hxc.out).mono ?_);rintro e w4 ⟨rfl,hb4⟩;(replace B:=B.trans (hb4.mono B.size)))
  go_ret2
  exact ⟨.slice none 0 0,by rw [hfin.out.1];rfl,by rw [hfin.out.2];exact aF.nil _ _,B⟩
 | true=>
 rw [hp] at PL
 replace PL:=xL PL
 obtain ⟨hgd,hl1,hl4,hpt⟩:=M.jl hp
 obtain ⟨g,rfl,hpa⟩:∃ g,sa=some ⟨g,0,none⟩∧dk w g l:=by
  rcases hv with h | h
  ·rw [h] at hl1;simp at hl1
  exact h
 have HP:=xL (hpa.below B)
 have HG:=xL (And.intro hgd hpt)
 have hp:=xL hp
 clear hpa hv hgd hpt
 obtain ⟨N,hN⟩:∃ N,N=l.length:=⟨_,rfl⟩
 rw [←hN] at PL hxc hx hl1 hl4 ⊢
 replace hN:=xL hN
 go_enter Tryz.func9,Tryz.ntmps9
 go_wp2_with (go_at_call 32;(with_reducible refine (PL.out _ hxc.out).mono ?_);rintro e w4 ⟨rfl,hb4⟩;(replace B:=B.trans (hb4.mono B.size));(replace C:=C.keep hb4);(replace HP:=xL (HP.out.below hb4));(clear hxc C_c0 C_c1 PL))
 have B4:=xL B
 have z4:=B.size
 go_loopw [6,7,19] (fun v6 v7 vi wr=>∃ (i:Nat) (ks:List Int) (ps:List Pt),vi=.int .i64 i∧i≤N∧Hid (M.fM a b l i=some (ks,ps))∧Hid (aF wr w4.heap.size v6 ks)∧Hid (Rw.Own EPt wr w4.heap.size v7 ps)∧Below w4.heap.size w4 wr) (fun _ _ vi _=>N - (intOf vi).toNat)
 case atStart=>exact ⟨0,[],[],rfl,by omega,xL rfl,xL (aF.nil _ _),xL (Rw.Own.nil _ _ _),xO _ _⟩
 case round=>
 obtain ⟨i,ks,ps,rfl,hi,hkp,h6,h7,hbr⟩:=hrel
 have zr:=hbr.size
 obtain ⟨A7,cap7,rfl,-⟩:=h7.out.seen.pts.from'
 obtain ⟨A6,cap6,rfl⟩:=h6.out.jh
 by_cases hlt:i<N
 ·obtain ⟨p,hpi⟩:∃ p,Hid (l[i]?=some p):=⟨_,xL (List.getElem?_eq_getElem (by have:=hN.out;omega))⟩
  obtain ⟨d0,d1,d2⟩:=HP.out.below hbr i p hpi.out
  have hnx:=xL (M.iC hkp.out hpi.out)
  obtain ⟨hi1,hi2,hi3⟩:=M.gX (by have:=hN.out;omega) hkp.out
  replace hi1:ks.length=ps.length:=hi1
  replace hi2:ps.length≤i:=hi2
  have hkl:ks.length≤4:=by omega
  have hpl:ps.length≤4:=by omega
  have hlen:(ps ++ [p]).length≤4:=by rw [List.length_append,List.length_singleton];omega
  have RG:=fun v w (h:dh w v (ps ++ [p]))=>kA a b v (ps ++ [p]) w h HG.out.1 (by rw [List.length_append,List.length_singleton];omega) hlen (fun x hx=>by
   rcases List.mem_append.1 hx with h | h
   ·exact HG.out.2 x (hi3 x h)
   obtain rfl:=List.mem_singleton.1 h
   exact HG.out.2 x (List.mem_of_getElem? hpi.out))
  have hno:=fun h=>M.iB (a:=a) (b:=b) (s:=(ks,ps)) (i:=i) (p:=p) h
  have hyes:=fun q h=>M.gK (a:=a) (b:=b) (s:=(ks,ps)) (i:=i) (p:=p) (q:=q) h
  simp only [] at hno hyes
  have hi4:=M.uG (M.uX (a:=a) (b:=b) (l:=ps ++ [p]))
  generalize M.fZ a b (ks,ps) i p=st at *
  generalize M.eO a b (ps ++ [p])=rs at *
  have hsome:Hid (rs=if rs.isSome then some (M.slo rs,M.shi rs) else none):=xL (by cases rs <;> rfl)
  replace hno:=xL hno
  replace hyes:=xL hyes
  generalize rs.isSome=fl at *
  generalize M.in1 rs=n1 at *
  generalize M.in2 rs=n2 at *
  generalize M.in3 rs=n3 at *
  generalize M.in4 rs=n4 at *
  generalize M.slo rs=lo at *
  generalize M.shi rs=hh at *
  replace RG:=xL RG
  clear hi1 hi2 hi3
  obtain ⟨wp,hwp,Pv,Bp⟩:=iX wr #[.int .i64 p.1,.int .i64 p.2.1,.int .i64 p.2.2] 57
  have Cp:=(C.keep hbr).keep Bp
  have h6p:=xL (h6.out.below Bp)
  have h7p:=xL (h7.out.below Bp)
  have hf7:=xL (show ∀ w',Below wp.heap.size wp w'→Rw.From EPt w' A7 ps by
   obtain ⟨A8,cap8,e8,h8⟩:=h7p.out.seen.pts.from'
   injection e8 with q1 q2 q3
   subst q1
   exact h8)
  have hwp':=xL hwp
  have zp:=Bp.size
  go_upto_region 8 with fail
  refine Rg.vF (fun l v w=>KqJ wp ps p l v w) [0,2,4,5,6] [undef,.slice A7 ps.length cap7,undef,.agg #[.int .i64 p.1,.int .i64 p.2.1,.int .i64 p.2.2],undef,undef,undef] (by kernel_rfl) (by kernel_rfl) (by decide) (fun l l2 v v2 w h j=>KqJ.congr h j) (fun _=>KqJ.start) ⟨?_,?_,?_,?_,?_,?_,?_,trivial⟩ ?_
  ·unfold Rg.cK
   intro ac_ w_ l_ vals_ hJ hl_ hu_ hd_ hc_ hr
   refine ⟨rfl,?_⟩
   rw [if_pos (by decide)]
   refine Rg.mg (x:=.slice (some ⟨w_.heap.size,0,none⟩) 0 0) (ob:=.cells #[] 57) (by (first | (go_simp;done) | (go_simp;exact Rg.wr (by omega) (by omega)) | (go_simp;omega) | (go_simp;rfl))) ?_
   exact hJ.empty (hu_ 2 (by kernel_rfl))
  ·unfold Rg.cK
   intro ac_ w_ l_ vals_ hJ hl_ hu_ hd_ hc_ hr
   refine ⟨rfl,?_⟩
   rw [if_neg (by decide)]
   have e7:ac_.tmps[7]?=some (.slice A7 ps.length cap7):=hr 7 (by decide)
   go_simp
  ·unfold Rg.cK
   intro ac_ w_ l_ vals_ hJ hl_ hu_ hd_ hc_ hr
   have e24:ac_.tmps[24]?=some (vals_ 0):=hr 24 (by decide)
   have e25:ac_.tmps[25]?=some (.slice A7 ps.length cap7):=hr 25 (by decide)
   refine ⟨rfl,?_⟩
   rw [if_pos (by decide)]
   have l5_:l_ 5=false:=by
    cases q:l_ 5
    ·rfl
    rw [hc_ 2 5 (by kernel_rfl) q] at hl_
    cases hl_
   have l6_:l_ 6=false:=by
    cases q:l_ 6
    ·rfl
    rw [hc_ 5 6 (by kernel_rfl) q] at l5_
    cases l5_
   have he_:=hJ.e (hd_ 0 (by kernel_rfl)) hl_
   obtain ⟨v_,w5_,q1_,q2_,q3_,q4_⟩:=Rw.qs jT (W:=wp) (base:=wp.heap.size) 31 ps A7 cap7 (hf7.out _ hJ.B) he_ hJ.B hJ.B.size (by simp only [List.length_nil];omega)
   refine Rg.ju (x:=v_) (w2:=w5_) (Rg.er rfl (Rg.ev e24) (Rg.ev e25) q1_) ?_
   exact hJ.copy (hd_ 0 (by kernel_rfl)) hl_ l5_ l6_ q4_ q2_
  ·unfold Rg.cK
   intro ac_ w_ l_ vals_ hJ hl_ hu_ hd_ hc_ hr
   refine ⟨rfl,?_⟩
   rw [if_neg (by decide)]
   have e9:ac_.tmps[9]?=some (.pointer (some ⟨wr.heap.size,0,none⟩)):=hr 9 (by decide)
   have hP_:=Pv.keep hJ.B
   have ⟨k0,k1,k2⟩:=hP_.aQ
   (first | (go_simp;done) | (go_simp;exact Rg.wr (by omega) (by omega)) | (go_simp;omega) | (go_simp;rfl))
  ·unfold Rg.cK
   intro ac_ w_ l_ vals_ hJ hl_ hu_ hd_ hc_ hr
   have e27:ac_.tmps[27]?=some (.agg #[.int .i64 p.1,.int .i64 p.2.1,.int .i64 p.2.2]):=hr 27 (by decide)
   refine ⟨rfl,?_⟩
   rw [if_pos (by decide)]
   refine Rg.mg (x:=.slice (some ⟨w_.heap.size,0,none⟩) 1 1) (ob:=.cells #[.int .i64 p.1,.int .i64 p.2.1,.int .i64 p.2.2] 57) (by (first | (go_simp;done) | (go_simp;exact Rg.wr (by omega) (by omega)) | (go_simp;omega) | (go_simp;rfl))) ?_
   exact hJ.lit
  ·unfold Rg.cK
   intro ac_ w_ l_ vals_ hJ hl_ hu_ hd_ hc_ hr
   have e26:ac_.tmps[26]?=some (vals_ 2):=hr 26 (by decide)
   have e28:ac_.tmps[28]?=some (vals_ 4):=hr 28 (by decide)
   refine ⟨rfl,?_⟩
   rw [if_pos (by decide)]
   obtain ⟨H_,eH_,hH_,-,hf_,-⟩:=hJ.t (hd_ 4 (by kernel_rfl)) hl_
   rw [eH_] at e28
   have hc_2:=hJ.c (hd_ 2 (by kernel_rfl)) hl_
   obtain ⟨v_,w5_,q1_,q2_,q3_,-⟩:=Rw.iN jT 31 [p] ⟨H_,0,none⟩ 1 hf_ hc_2 hJ.B.size (by simp only [List.length_singleton];omega)
   refine Rg.ju (x:=v_) (w2:=w5_) (Rg.er rfl (Rg.ev e26) (Rg.ev e28) q1_) ?_
   exact hJ.app (hd_ 2 (by kernel_rfl)) hl_ (hu_ 6 (by kernel_rfl)) q3_ q2_
  ·unfold Rg.cK
   intro ac_ w_ l_ vals_ hJ hl_ hu_ hd_ hc_ hr
   have e29:ac_.tmps[29]?=some (vals_ 5):=hr 29 (by decide)
   refine ⟨rfl,?_⟩
   rw [if_pos (by decide)]
   refine Rg.ju (x:=vals_ 5) (w2:=w_) (by (first | (go_simp;done) | (go_simp;exact Rg.wr (by omega) (by omega)) | (go_simp;omega) | (go_simp;rfl))) ?_
   exact hJ.take (hd_ 5 (by kernel_rfl))
  intro vals wz hJ hv
  simp only [Rg.am,Rg.fill,Act.put,Nat.reduceAdd]
  clear hv
  have Bz:=hJ.B
  have hm:=hJ.m rfl
  obtain ⟨A10,cap10,e10,-⟩:=hm.seen.pts.from'
  rw [e10] at hm ⊢
  have hz8:(ps ++ [p]).length=ps.length+1:=by simp
  rw [hz8] at hm ⊢
  have hm:=xL hm
  have Bw:Below w4.heap.size w4 wz:=(hbr.trans (Bp.mono zr)).trans (Bz.mono (Nat.le_trans zr zp))
  have Pz:=Pv.keep Bz
  have Cz:=Cp.keep Bz
  have h6z:=h6p.out.below Bz
  have h7z:=h7p.out.below Bz
  have zz:=Bz.size
  have zw:=Bw.size
  have C_c0:=Cz.box.c0
  have C_c1:=Cz.box.c1
  have hms:=xL (show dh wz (.slice A10 (ps.length+1) cap10) (ps ++ [p]) from hm.out.seen.pts)
  clear hJ e10 Bz Cp d0 d1 d2 h6p h7p hf7
  cases fl with
  | false=>
   have hst:st=none:=hno.out (by rw [hsome.out];rfl)
   have hfin:=xL (M.lL (a:=a) (b:=b) (l:=l) (by rw [←hN.out];exact M.iD (hnx.out.trans hst) N (by omega)))
   go_wp2_with (go_at_call 33;(with_reducible refine (RG.out _ _ hms.out).mono ?_);rintro e w7 ⟨rfl,hb7⟩;(replace Bw:=Bw.trans (hb7.mono zw));(have Ball:Hid (Below w.heap.size w w7):=xL (B4.out.trans (Bw.mono z4))))
   go_ret2
   exact ⟨.slice none 0 0,by rw [hfin.out.1];rfl,by rw [hfin.out.2];exact aF.nil _ _,aR Ball.out _⟩
  | true=>
  have hst:=hyes.out (lo,hh) (by rw [hsome.out];rfl)
  simp only [] at hst
  by_cases hpos:0<lo
  ·rw [if_pos hpos] at hst
   have hd:decide (n1 > 0)=true:=hi4.trans (decide_eq_true hpos)
   clear hsome hno hyes hwp' hlen hi4
   go_wp2_with (first
    | (go_at_call 33;(with_reducible refine (RG.out _ _ hms.out).mono ?_);rintro e w7 ⟨rfl,hb7⟩;(have hb8:=(xO w7.heap.size w7).alloc (xP _) (.cells #[.int .i64 n1,.int .i64 n2,.int .i64 n3,.int .i64 n4] 64));(have V:=aH.new w7 #[.int .i64 n1,.int .i64 n2,.int .i64 n3,.int .i64 n4] 64);(have ⟨v0,v1,v2,v3,_,_,_,_,_⟩:=V.aN);(replace Bw:=(Bw.trans (hb7.mono zw)).trans (hb8.mono (Nat.le_trans zw hb7.size)));(replace hb7:=hb7.trans (hb8.mono hb7.size));(have h6w:=xL (h6z.below hb7));(have hmw:=xL (hm.out.below hb7));(have zx:=Bw.size))
    | (at_builtin;refine Rw.pf ux w4.heap.size [(i:Int)] ks _ ⟨_,0,none⟩ 1 1 (by rfl) (by rfl) (.tmp 43) (.tmp 45) (by rfl) (by rfl) (by rfl) (sL (i:Int) (by simp)) ((cP.1 h6w.out).alloc _) (by simp at zx ⊢;omega) (by simp;omega) ?_;intro v5 w5 hown5 hg5 hbl5;(have h7y:=sk (hmw.out.alloc _) (aF.alloc h6w.out _) hg5);(have hb5:Below w4.heap.size w4 w5:=(aR Bw (.cells #[.int .i64 (i:Int)] 3)).grown hg5 (by simp at zx ⊢;omega) (fun k hk=>(h6w.out.lt k hk).1))))
   go_roundw
   case rel=>exact ⟨i+1,ks ++ [(i:Int)],ps ++ [p],by go_num,by omega,xL (hnx.out.trans hst),xL (cP.2 hown5),xL (h7y.down (Nat.le_trans zr zp)),hb5⟩
   case measure=>simp [intOf];omega
  rw [if_neg hpos] at hst
  have hd:decide (n1 > 0)=false:=hi4.trans (decide_eq_false hpos)
  clear hsome hno hyes hwp' hlen hi4
  go_wp2_with (go_at_call 33;(with_reducible refine (RG.out _ _ hms.out).mono ?_);rintro e w7 ⟨rfl,hb7⟩;(have hb8:=(xO w7.heap.size w7).alloc (xP _) (.cells #[.int .i64 n1,.int .i64 n2,.int .i64 n3,.int .i64 n4] 64));(have V:=aH.new w7 #[.int .i64 n1,.int .i64 n2,.int .i64 n3,.int .i64 n4] 64);(have ⟨v0,v1,v2,v3,_,_,_,_,_⟩:=V.aN);(replace Bw:=(Bw.trans (hb7.mono zw)).trans (hb8.mono (Nat.le_trans zw hb7.size)));(replace hb7:=hb7.trans (hb8.mono hb7.size));(have h6w:=xL (h6z.below hb7));(have h7w:=xL (h7z.below hb7)))
  go_roundw
  case rel=>exact ⟨i+1,ks,ps,by go_num,by omega,xL (hnx.out.trans hst),h6w,h7w,Bw⟩
  case measure=>simp [intOf];omega
 obtain rfl:i=N:=by omega
 have hfin:=xL (M.oJ (a:=a) (b:=b) (l:=l) hp.out (by rw [←hN.out];exact hkp.out))
 have Ball:Hid (Below w.heap.size w wr):=xL (B4.out.trans (hbr.mono z4))
 go_wp2
 go_ret2
 exact ⟨.slice A6 ks.length cap6,by rw [hfin.out.1];rfl,by rw [hfin.out.2];exact cP.2 ((cP.1 h6.out).down z4),Ball.out⟩
end
section
open Go.ChangeShapes Go.WideShapes Go.ChangeAt Go.RowKit Go.Joins Go.Deep
theorem own:ownKnob Tryz.prog.godebug=none:=by kernel_rfl
theorem laidOut:laidOutB Tryz.prog=true:=by kernel_rfl
theorem M.kK {a:Int} (h:(Lit.int .i64 a).wf=true):M.I64 a:=by
 have:=bounds_i64 h
 exact this
section
variable {H:Type} {enc:TypeId × Value→H} {P:Program} {w:World} {base:Nat} {spare:Nat→Bool} {held:Bool}
theorem open_2i {r:Reach} {b0:Nat} {t ti:TypeId} {f0 f1:Field} {v:Value} {d:DataW H} {p:List MemPlace} (hs:P.underlying t=some (.struct #[f0,f1])) (h0:f0.type=ti) (h1:f1.type=ti) (hi:P.underlying ti=some (.int .i64)) (hone:oneCellFields P #[f0,f1]=true) (hC:P.cellsOf t=2)
  (hv:Value.okWide P w r b0 t v) (h:DataW.Trod enc P w base spare held t v d p) :
  ∃ a b,v=.agg #[.int .i64 a,.int .i64 b]∧M.I64 a∧M.I64 b:=by
 obtain ⟨v0,v1,y0,y1,n,rfl,-,-,g0,g1⟩:=open_agg2 hs hone hC hv h
 rw [h0] at g0
 rw [h1] at g1
 obtain ⟨a,ea,-,wa⟩:=DataW.trod_int hi g0
 obtain ⟨b,eb,-,wb⟩:=DataW.trod_int hi g1
 simp only [List.cons.injEq,and_true] at ea eb
 subst ea eb
 exact ⟨a,b,rfl,M.kK wa,M.kK wb⟩
theorem gE (hl:laidOutB P=true):∀ (ts:List TypeId) (hts:∀ t ∈ ts,P.readableRec t=true∧t<P.types.size) {W W':World} {vs:List Value} {ds:List (DataW H)} {ps:List MemPlace}
  (_:DataW.TrodAll enc P W 0 (fun _=>true) true ts vs ds ps) (_:Below W.heap.size W W') (_:∀ x ∈ ps,x.block<W.heap.size),DataW.TrodAll enc P W' 0 (fun b=>decide (b<W.heap.size)) true ts vs ds ps
 | [],_,_,_,_,_,_,h,_,_=>by
  obtain ⟨rfl,rfl,rfl⟩:=trodAll_nil h
  exact trodAll_mk0
 | t :: ts,hts,_,_,_,_,_,h,hb,hlt=>by
  obtain ⟨v,vs',d,ds',p,q,rfl,rfl,rfl,h1,h2⟩:=trodAll_cons h
  refine ⟨p,q,Below.trod hl (hts t List.mem_cons_self).1 (hts t List.mem_cons_self).2 h1 hb fun x hx=>hlt x (List.mem_append_left _ hx),?_,rfl⟩
  exact gE hl ts (fun t' ht'=>hts t' (List.mem_cons_of_mem _ ht')) h2 hb fun x hx=>hlt x (List.mem_append_right _ hx)
theorem law_post {f:Func} {s:ChangeSpec} {W W':World} {args:Array Value} {ds:List (DataW H)} {before:List MemPlace} {tb:TypeId}
  (hl:laidOutB P=true) (hts:∀ t ∈ f.params.toList,P.readableRec t=true∧t<P.types.size)
  (hvars:s.vars=[]) (hf:s.fn H ds={ results:=[.lit (.bool true)],args:=ds }) (hrt:f.resultTypes=#[tb]) (hbool:P.underlying tb=some .bool)
  (hW:DataW.Whole enc P f.params.toList s.vars false W args.toList ds [] before) (hb:Below W.heap.size W W') :
  s.post enc P f false true false false W args (.bool true) W':=by
 have hlt:∀ p ∈ before,p.block<W.heap.size:=fun p hp=>hW.lt p hp
 obtain ⟨p,q,hA,hV,hpq,hz,hn⟩:=id hW
 rw [hvars] at hV
 obtain ⟨_,rfl⟩:=trodVars_none hV
 have hbp:before=p:=by simpa using hpq
 subst hbp
 have e1:s.fn H (ds ++ [])={ results:=[.lit (.bool true)],args:=ds }:=by rw [List.append_nil];exact hf
 refine ⟨ds,[],before,[],before,[],hW,?_,?_,?_,World.keptBut_mono (fun x hx=>⟨hx,Or.inr (Or.inl hx)⟩) (hb.frame (· ∈ before)),fun h=>by cases h⟩
 ·rw [e1,hrt]
  exact trodAll_mk1 (shut_bool hbool true)
 ·rw [e1]
  exact gE hl _ hts hA hb hlt
 rw [e1,hvars]
 exact rfl
end
def nf (w:World) (v:Value) (xs:List Int):Prop:=
 ∃ (A:Option Addr) (cap:Nat),v=.slice A xs.length cap∧(xs.length:Int)≤9223372036854775807∧
  ∀ k,k<xs.length→∃ g o x,A=some ⟨g,o,none⟩∧g<w.heap.size∧Hid (xs[k]?=some x)∧w.cell? ⟨g,o+k,none⟩=some (.int .i64 x)
theorem nf.keep {w w':World} {v:Value} {xs:List Int} (h:nf w v xs) (hb:Below w.heap.size w w'):nf w' v xs:=by
 obtain ⟨A,cap,rfl,hm,hv⟩:=h
 refine ⟨A,cap,rfl,hm,fun k hk=>?_⟩
 obtain ⟨g,o,x,hA,hg,hx,h0⟩:=hv k hk
 exact ⟨g,o,x,hA,Nat.lt_of_lt_of_le hg hb.size,hx,aE hb h0⟩
theorem open_points {H:Type} {enc:TypeId × Value→H} {P:Program} {w:World} {base b0:Nat} {held:Bool} {r:Reach} {t te ti:TypeId} {f0 f1 f2:Field} {v:Value} {d:DataW H} {ps:List MemPlace}
  (ht:P.underlying t=some (.slice te)) (he:P.underlying te=some (.struct #[f0,f1,f2])) (t0:f0.type=ti) (t1:f1.type=ti) (t2:f2.type=ti) (hi:P.underlying ti=some (.int .i64)) (ce:P.cellsOf te=3) (o0:f0.offset=0) (o1:f1.offset=1) (o2:f2.offset=2)
  (ci:P.cellsOf ti=1) (hv:Value.okWide P w r b0 t v) (h:DataW.Trod enc P w base (fun _=>true) held t v d ps) :
  ∃ xs:List Pt,cy w v xs:=by
 obtain ⟨a1,len,cap,rfl⟩:=okWide_slice ht hv
 obtain ⟨fuel,hf⟩:=h
 rcases open_slice ht hf with ⟨hcs,hx⟩ | ⟨a,len',cap',m,n,D,Pl,hcs,hb,hl,hm,hmm,hx,hall⟩
 ·simp [Value.cells] at hcs
  obtain ⟨rfl,rfl,rfl⟩:=hcs
  exact ⟨[],none,0,rfl,by simp,fun k hk=>absurd hk (by simp)⟩
 simp [Value.cells] at hcs
 obtain ⟨rfl,rfl,rfl⟩:=hcs
 simp only [if_true] at hmm
 have each:∀ i,i<len→∃ q:Pt,w.cell? (a.add (i*3))=some (.int .i64 q.1)∧w.cell? (a.add (i*3+1))=some (.int .i64 q.2.1)∧w.cell? (a.add (i*3+2))=some (.int .i64 q.2.2):=by
  intro i hi2
  obtain ⟨cs',h1,h2⟩:=hall i (by omega)
  rw [ce] at h1
  obtain ⟨_,hlen,hcell⟩:=World.cells?_some h1
  obtain ⟨xs,k,hk,hxy,_,hxl,hfd⟩:=DataW.trod_struct he h2
  match xs,hxl,cs',hlen with
  | [y0,y1,y2],_,[v0,v1,v2],_=>
  have g0:=hfd 0 f0 rfl
  have g1:=hfd 1 f1 rfl
  have g2:=hfd 2 f2 rfl
  simp [o0,o1,o2,t0,t1,t2,ci] at g0 g1 g2
  have e0:=hcell 0 (by omega)
  have e1:=hcell 1 (by omega)
  have e2:=hcell 2 (by omega)
  rw [add_add] at e0 e1 e2
  obtain ⟨x,ex,-,-⟩:=DataW.trod_int hi g0
  obtain ⟨y,ey,-,-⟩:=DataW.trod_int hi g1
  obtain ⟨z,ez,-,-⟩:=DataW.trod_int hi g2
  simp only [List.cons.injEq,and_true] at ex ey ez
  subst ex ey ez
  refine ⟨(intOf (.int .i64 x),intOf (.int .i64 y),intOf (.int .i64 z)),?_,?_,?_⟩
  ·simpa [intOf] using e0
  ·simpa [intOf] using e1
  simpa [intOf] using e2
 obtain ⟨q,hq⟩:=choose_lt each
 refine ⟨(List.range len).map q,some a,cap,by simp,by simp;unfold maxLen at hm;omega,fun k hk=>?_⟩
 have hk':k<len:=by simpa using hk
 obtain ⟨h1,h2,h3⟩:=hq k hk'
 obtain ⟨ab,ao,spot⟩:=a
 have hspot:spot=none:=by simpa [Addr.add] using World.cell?_spot (hq 0 (by omega)).1
 subst hspot
 rw [Addr.add_lit] at h1 h2 h3
 exact ⟨ab,ao,q k,rfl,World.block_lt_of_cell? w _ h1,xL (by rw [List.getElem?_map,List.getElem?_range hk'];rfl),h1,by rw [Nat.add_assoc];exact h2,by rw [Nat.add_assoc];exact h3⟩
end
section
open Go.RowKit Go.Shelf
theorem aF.xB {w w':World} {base:Nat} {r:Option Nat} {v:Value} {xs:List Int} (h:aF w base v xs) (hg:w.grownBy w' r) (hlt:∀ k,r=some k→k<base):aF w' base v xs:=by
 refine World.ownsRow.kept h hg ?_
 cases hb:v.ownBlock with
 | none=>exact Or.inl rfl
 | some k=>exact Or.inr (fun he=>by
   have h5:=(World.ownsRow.lt h k hb).1
   have:=hlt k he.symm
   omega)
theorem law_KeepIndependent (a b:Int) (_:M.I64 a) (_:M.I64 b) (v:Value) (xs:List Pt) (w:World) (hx:cy w v xs) :
  Calls Tryz.prog 3 #[.agg #[.int .i64 a,.int .i64 b],v] w fun e w'=>e=.returned (.bool true)∧Below w.heap.size w w':=by
 have e1:=fun v w h hn=>fP a b v xs w h hn
 have e2:=fun v w h hn=>fL a b v xs w h hn
 have hl:=M.uR a b xs
 generalize M.kpV a b xs=V at *
 generalize M.lK a b xs=ok at *
 have E1:=xL e1
 have E2:=xL e2
 clear e1 e2
 have TCu:=xL fun w=>ot a b w
 have hd2:decide (xs=xs)=true:=by simp
 have EQ:=fun v u w h1 h2 hx hy p q=>nv v u xs xs w h1 h2 hx hy p q
 rw [hd2] at EQ
 have EQ:=xL EQ
 clear hd2
 have hd:decide (V=V)=true:=by simp
 have EV:=fun v u w h1 h2 hx hy=>sH v u V V w h1 h2 hx hy
 rw [hd] at EV
 have EV:=xL EV
 clear hd
 have Hx:=xL hx
 by_cases hn:xs.length≤1048576
 ·have hL:0≤(1048576:Int) - xs.length:=by omega
  obtain ⟨A,cap,rfl,-,-⟩:=hx
  have TC:=fun w (h:cy w (.slice A xs.length cap) xs)=>ou (.slice A xs.length cap) xs w h hn
  have TC:=xL TC
  have HS:=fun w (h:cy w (.slice A xs.length cap) xs)=>jx (.slice A xs.length cap) xs w h
  simp only [if_pos hn] at HS
  have HS:=xL HS
  have MK:=fun v w base (h:Rw.Own EPt w base v xs)=>lM v xs 1 w base h (by decide) (by omega)
  have hk0:(0:Int)≤1+3*xs.length:=by omega
  have hm0:(0:Int)≤1+(V.length:Int):=by omega
  have MV:=fun v w base (h:aF w base v V)=>oL v V 1 w base h (by decide) (by omega)
  have HV:=fun v w base (h:aF w base v (M.marks 1 V.length))=>nz v V.length 1 w base h (by decide) (by omega)
  have hn4:xs.length≤4000000:=by omega
  have MK:=xL MK
  have MV:=xL MV
  have HV:=xL HV
  have B:=(xO w.heap.size w).alloc (xP _) (.cells #[.int .i64 a,.int .i64 b] 23)
  have C:=aH.new w #[.int .i64 a,.int .i64 b] 23
  generalize hw3:w.alloc (.cells #[.int .i64 a,.int .i64 b] 23)=wc at *
  have k0:=C.box.c0
  have k1:=C.box.c1
  generalize hKe:(1:Int)+3*xs.length=K1 at *
  generalize hMe:(1:Int)+(V.length:Int)=M1 at *
  clear hKe hMe
  generalize xs.length=L at *
  generalize hM:(1048576:Int) - L=M0 at *
  go_enter Tryz.func3,Tryz.ntmps3
  go_wp2_with fail
  refine (HS.out _ (Hx.out.keep B)).mono ?_;rintro e w0 ⟨rfl,rfl⟩
  go_wp2_with fail
  refine (TCu.out _).mono ?_;rintro e w1 ⟨rfl,b1⟩
  replace B:=B.trans (b1.mono B.size)
  replace C:=C.keep b1
  clear k0 k1
  go_wp2_with fail
  refine (TC.out _ (Hx.out.keep B)).mono ?_;rintro e w2 ⟨v2,rfl,o2,b2⟩
  replace B:=B.trans (b2.mono B.size)
  replace C:=C.keep b2
  go_wp2_with fail
  refine (E1.out _ _ o2.seen.pts hn4).mono ?_;rintro e w3 ⟨u0,rfl,ho,b3⟩
  replace B:=B.trans (b3.mono B.size)
  replace C:=C.keep b3
  have h3:=B.size
  have s:=ho.seen
  have G:=xO w3.heap.size w3
  clear ho o2
  go_wp2_with fail
  refine (TC.out _ (Hx.out.keep B)).mono ?_;rintro e w4 ⟨v4,rfl,o4,b4⟩
  replace B:=B.trans (b4.mono B.size)
  replace G:=G.trans (b4.mono G.size)
  have zG:=G.size
  have hlt4:∀ k,v4.ownBlock=some k→w3.heap.size≤k∧k<w4.heap.size:=fun k hk=>World.ownsRow.lt o4 k hk
  have k0:=(C.keep G).box.c0
  have k1:=(C.keep G).box.c1
  go_wp2_with fail
  refine (TCu.out _).mono ?_;rintro e w5 ⟨rfl,b5⟩
  replace B:=B.trans (b5.mono B.size)
  replace G:=G.trans (b5.mono G.size)
  have zG:=G.size
  replace o4:=o4.below b5
  have z5:=b5.size
  clear k0 k1
  go_wp2_with fail
  refine (E2.out _ _ o4.seen.pts hn4).mono ?_;rintro e w6 ⟨u1,rfl,p,b6⟩
  replace B:=B.trans (b6.mono B.size)
  replace G:=G.trans (b6.mono G.size)
  have zG:=G.size
  replace o4:=o4.below b6
  have z6:=b6.size
  have hb5:w3.heap.size≤w5.heap.size:=Nat.le_trans (Nat.le_trans b4.size b5.size) (xP _)
  go_wp2_with fail
  refine (EV.out _ _ _ _ _ p.seen (s.below G)).mono ?_;rintro e w7 ⟨rfl,b7⟩
  replace B:=B.trans (b7.mono B.size)
  replace G:=G.trans (b7.mono G.size)
  have zG:=G.size
  replace o4:=o4.below b7
  replace p:=p.below b7
  go_wp2_with fail
  refine (TC.out _ (Hx.out.keep B)).mono ?_;rintro e w8 ⟨v8,rfl,o8,b8⟩
  replace B:=B.trans (b8.mono B.size)
  replace G:=G.trans (b8.mono G.size)
  have zG:=G.size
  replace o4:=o4.below b8
  replace p:=p.below b8
  go_wp2_with fail
  refine (EQ.out _ _ _ _ _ o4.seen o8.seen (xP _) (xP _)).mono ?_;rintro e w9 ⟨rfl,b9⟩
  replace B:=B.trans (b9.mono B.size)
  replace G:=G.trans (b9.mono G.size)
  have zG:=G.size
  replace o4:=o4.below b9
  replace p:=p.below b9
  clear o8
  go_wp2_with fail
  refine (MK.out _ _ _ o4).mono ?_;rintro e w10 ⟨rfl,-,hg⟩
  have b10:Below w3.heap.size w9 w10:=cN hg zG (fun k hk=>(hlt4 k hk).1)
  replace B:=B.trans (b10.mono h3)
  replace G:=G.trans b10
  replace zG:=G.size
  replace p:=p.xB hg (fun k hk=>Nat.lt_of_lt_of_le (hlt4 k hk).2 b5.size)
  clear o4 hg
  go_wp2_with fail
  refine (EV.out _ _ _ _ _ p.seen (s.below G)).mono ?_;rintro e w11 ⟨rfl,b11⟩
  replace B:=B.trans (b11.mono B.size)
  replace G:=G.trans (b11.mono G.size)
  have zG:=G.size
  replace p:=p.below b11
  have zq:w5.heap.size≤w11.heap.size:=by have:=b7.size;have:=b8.size;have:=b9.size;have:=b10.size;have:=b11.size;omega
  go_wp2_with fail
  refine (MV.out _ _ _ p).mono ?_;rintro e w12 ⟨rfl,q,hg⟩
  have b12:Below w5.heap.size w11 w12:=cN hg zq (fun k hk=>(p.lt k hk).1)
  clear hg
  replace B:=B.trans (b12.mono (Nat.le_trans h3 hb5))
  replace G:=G.trans (b12.mono hb5)
  replace zG:=G.size
  clear p
  go_wp2_with fail
  refine (HV.out _ _ _ q).mono ?_;rintro e w13 ⟨rfl,b13⟩
  replace B:=B.trans (b13.mono B.size)
  replace G:=G.trans (b13.mono G.size)
  have zG:=G.size
  replace q:=q.below b13
  have k0:=(C.keep G).box.c0
  have k1:=(C.keep G).box.c1
  go_wp2_with fail
  refine (TCu.out _).mono ?_;rintro e w14 ⟨rfl,b14⟩
  replace B:=B.trans (b14.mono B.size)
  replace G:=G.trans (b14.mono G.size)
  have zG:=G.size
  replace q:=q.below b14
  clear k0 k1
  go_wp2_with fail
  refine (TC.out _ (Hx.out.keep B)).mono ?_;rintro e w15 ⟨v15,rfl,o15,b15⟩
  replace B:=B.trans (b15.mono B.size)
  replace G:=G.trans (b15.mono G.size)
  have zG:=G.size
  replace q:=q.below b15
  go_wp2_with fail
  refine (E2.out _ _ o15.seen.pts hn4).mono ?_;rintro e w16 ⟨u2,rfl,hw,b16⟩
  replace B:=B.trans (b16.mono B.size)
  replace G:=G.trans (b16.mono G.size)
  have zG:=G.size
  replace q:=q.below b16
  go_wp2_with fail
  refine (EV.out _ _ _ _ _ hw.seen (s.below G)).mono ?_;rintro e w17 ⟨rfl,b17⟩
  replace B:=B.trans (b17.mono B.size)
  replace G:=G.trans (b17.mono G.size)
  have zG:=G.size
  replace q:=q.below b17
  go_wp2_with fail
  refine (HV.out _ _ _ q).mono ?_;rintro e w18 ⟨rfl,b18⟩
  replace B:=B.trans (b18.mono B.size)
  go_wp2_with fail
  go_ret
  exact ⟨by simp,B⟩
 obtain ⟨A,cap,rfl,-,-⟩:=hx
 have HS:=fun w (h:cy w (.slice A xs.length cap) xs)=>jx (.slice A xs.length cap) xs w h
 simp only [if_neg hn] at HS
 have HS:=xL HS
 have B:=(xO w.heap.size w).alloc (xP _) (.cells #[.int .i64 a,.int .i64 b] 23)
 replace Hx:=xL (Hx.out.keep B)
 generalize hw3:w.alloc (.cells #[.int .i64 a,.int .i64 b] 23)=wc at *
 generalize xs.length=L at *
 go_enter Tryz.func3,Tryz.ntmps3
 go_wp2_with fail
 refine (HS.out _ Hx.out).mono ?_;rintro e w0 ⟨rfl,rfl⟩
 go_wp2
 go_ret
 exact ⟨rfl,B⟩
end
end Go.Proofs.YtgfkcoablfjbcaaGreat
