/-
  Joined texts: contracts and plain lemmas.
-/
import Derived.Test.YtgfkcoablfjbcaaGreatY1
import Derived.Test.YtgfkcoablfjbcaaGreatY28
set_option linter.unusedSimpArgs false
set_option linter.unusedVariables false
set_option maxRecDepth 100000
set_option maxHeartbeats 8000000
namespace Go.Proofs.YtgfkcoablfjbcaaGreat
section
open Go.RowKit Go.Shelf
def gG (i j:Nat) (W0:World) (a b n d:Int) (xs:List Pt) (k:Nat) (v:Nat→Value) (W:World):Prop:=match k with
 | 0=>Below W0.heap.size W0 W
 | 1=>Below W0.heap.size W0 W∧∃ u,v i=.agg #[.int .i64 a,.int .i64 b,u,.int .i64 n,.int .i64 d]∧Rw.Own EPt W W0.heap.size u xs
 | _=>Below W0.heap.size W0 W∧v j=.bool true
theorem gG.congr {i j:Nat} {W0:World} {a b n d:Int} {xs:List Pt} {k:Nat} {v v':Nat→Value} {W:World} (h1:v i=v' i) (h2:v j=v' j) (h:gG i j W0 a b n d xs k v W):gG i j W0 a b n d xs k v' W:=by
 unfold gG at *
 rw [←h1,←h2]
 exact h
theorem gG.B {i j:Nat} {W0:World} {a b n d:Int} {xs:List Pt} {k:Nat} {v:Nat→Value} {W:World} (h:gG i j W0 a b n d xs k v W):Below W0.heap.size W0 W:=by
 match k,h with
 | 0,h=>exact h
 | 1,h=>exact h.1
 | _+2,h=>exact h.1
theorem gG.val {i j:Nat} {W0:World} {a b n d:Int} {xs:List Pt} {k:Nat} {v:Nat→Value} {W:World} (h:gG i j W0 a b n d xs k v W) (hk:1<k):v j=.bool true:=by
 match k,h with
 | _+2,h=>exact h.2
theorem law_CheckCertificate (a b n d:Int) (_:M.I64 a) (_:M.I64 b) (_:M.I64 n) (_:M.I64 d) (v:Value) (xs:List Pt) (w:World) (hx:cJ w v xs) :
  Calls Tryz.prog 4 #[.agg #[.int .i64 a,.int .i64 b,v,.int .i64 n,.int .i64 d]] w fun e w'=>e=.returned (.bool true)∧Below w.heap.size w w':=by
 have e1:=fun v w h hn=>es a b n d v xs w h hn
 have e2:=fun v w h hn=>eo a b n d v xs w h hn
 generalize M.ckV a b xs n d=t1 at *
 generalize M.jq a b xs n d=t2 at *
 have E1:=ws e1
 have E2:=ws e2
 clear e1 e2
 have EQ:=ws fun v u w h1 h2 hx hy p q=>iO a b n d v u xs w h1 h2 hx hy p q
 have Hx:=ws hx
 obtain ⟨A,cap,rfl,-,-⟩:=hx
 obtain ⟨wc,hw3,C,B⟩:=fZ w #[.int .i64 a,.int .i64 b,.slice A xs.length cap,.int .i64 n,.int .i64 d] 41
 have ⟨k0,k1,k2,k3,k4⟩:=C.b7
 by_cases hn:xs.length≤1048576
 ·have hL:0≤(1048576:Int) - xs.length:=by omega
  have TC:=ws fun w (h:cJ w (.slice A xs.length cap) xs)=>iT a b n d (.slice A xs.length cap) xs w h hn
  have HS:=fun w (h:cJ w (.slice A xs.length cap) xs)=>fF a b n d (.slice A xs.length cap) xs w h
  simp only [if_pos hn] at HS
  replace HS:=ws HS
  have hn4:xs.length≤4000000:=by omega
  generalize (1048576:Int) - xs.length=M0 at *
  go_enter Tryz.func4,Tryz.ntmps4
  go_wp2_with fail
  refine (HS.out _ (Hx.out.keep B)).mono ?_;rintro e w1 ⟨rfl,b1⟩
  replace B:=B.trans (b1.mono B.size)
  replace C:=C.keep b1
  clear k0 k1 k2 k3 k4
  have ⟨k0,k1,k2,k3,k4⟩:=C.b7
  go_wp2_with fail
  refine (TC.out _ (Hx.out.keep B)).mono ?_;rintro e w2 ⟨v2,rfl,o2,b2⟩
  replace B:=B.trans (b2.mono B.size)
  replace C:=C.keep b2
  go_wp2_with fail
  refine (E1.out _ _ o2.seen.pts hn4).mono ?_;rintro e w3 ⟨rfl,b3⟩
  replace B:=B.trans (b3.mono B.size)
  replace C:=C.keep b3
  clear o2 k0 k1 k2 k3 k4
  have ⟨k0,k1,k2,k3,k4⟩:=C.b7
  go_wp2_with fail
  refine (TC.out _ (Hx.out.keep B)).mono ?_;rintro e w4 ⟨v4,rfl,o4,b4⟩
  replace B:=B.trans (b4.mono B.size)
  replace C:=C.keep b4
  obtain ⟨A4,c4,rfl⟩:=slV o4.seen.pts
  obtain ⟨wq,hwq,Q,Bq⟩:=fZ w4 #[.int .i64 a,.int .i64 b,.slice A4 xs.length c4,.int .i64 n,.int .i64 d] 47
  replace B:=B.trans (Bq.mono B.size)
  replace C:=C.keep Bq
  replace o4:=o4.below Bq
  have ⟨q0,q1,q2,q3,q4⟩:=Q.b7
  go_wp2_with fail
  refine (E2.out _ _ o4.seen.pts hn4).mono ?_;rintro e w5 ⟨rfl,b5⟩
  replace B:=B.trans (b5.mono B.size)
  replace C:=C.keep b5
  replace o4:=ws (o4.below b5)
  replace Q:=Q.keep b5
  clear q0 q1 q2 q3 q4 k0 k1 k2 k3 k4
  go_upto_region 10 with fail
  refine Rg.tW (fun k v W=>gG 2 3 w5 a b n d xs k v W) [2,3] [.agg #[.int .i64 a,.int .i64 b,.slice A4 xs.length c4,.int .i64 n,.int .i64 d],.agg #[.int .i64 a,.int .i64 b,.slice A xs.length cap,.int .i64 n,.int .i64 d],undef,undef,.bool false] (by kernel_rfl) (by kernel_rfl) (by kernel_rfl) (by decide) (fun k v v2 W h hj=>gG.congr (h 2 (by decide)) (h 3 (by decide)) hj) (fun _=>(ww _ _).drew) ⟨?_,?_,?_,?_,?_,trivial⟩ ?_
  ·unfold Rg.bK
   rw [if_neg (by decide)]
   intro ac_ w_ n_ vals_ hn_ hJ hr
   refine ⟨rfl,?_⟩
   have e6:ac_.tmps[6]?=some (.pointer (some ⟨w4.heap.size,0,none⟩)):=hr 6 (by decide)
   have hs_:=Q.keep (gG.B hJ)
   have ⟨k0,k1,k2,k3,k4⟩:=hs_.b7
   (first | (go_simp;done) | (go_simp;omega) | (go_simp;rfl))
  ·unfold Rg.bK
   rw [if_neg (by decide)]
   intro ac_ w_ n_ vals_ hn_ hJ hr
   refine ⟨rfl,?_⟩
   have e1:ac_.tmps[1]?=some (.pointer (some ⟨w.heap.size,0,none⟩)):=hr 1 (by decide)
   have hs_:=C.keep (gG.B hJ)
   have ⟨k0,k1,k2,k3,k4⟩:=hs_.b7
   (first | (go_simp;done) | (go_simp;omega) | (go_simp;rfl))
  ·unfold Rg.bK
   rw [if_pos (by decide)]
   intro ac_ w_ vals_ hJ hr
   have e36:ac_.tmps[36]?=some (.agg #[.int .i64 a,.int .i64 b,.slice A xs.length cap,.int .i64 n,.int .i64 d]):=hr 36 (by decide)
   have ef:∀ f,ac_.eval (.func f)=.func (.func f) #[] #[]:=fun _=>rfl
   refine ⟨rfl,?_⟩
   have hJ:Below w5.heap.size w5 w_:=hJ
   refine Rg.rQ (by go_simp;exact ⟨rfl,rfl⟩) ?_
   refine (TC.out _ (Hx.out.keep (B.trans (hJ.mono B.size)))).mono ?_
   rintro e w6_ ⟨u_,rfl,ho_,hb_⟩
   exact ⟨_,rfl,hJ.trans (hb_.mono hJ.size),u_,rfl,ho_.down hJ.size⟩
  ·unfold Rg.bK
   rw [if_pos (by decide)]
   intro ac_ w_ vals_ hJ hr
   have e35:ac_.tmps[35]?=some (.agg #[.int .i64 a,.int .i64 b,.slice A4 xs.length c4,.int .i64 n,.int .i64 d]):=hr 35 (by decide)
   have e37:ac_.tmps[37]?=some (vals_ 2):=hr 37 (by decide)
   have ef:∀ f,ac_.eval (.func f)=.func (.func f) #[] #[]:=fun _=>rfl
   refine ⟨rfl,?_⟩
   obtain ⟨hb_,u_,q_,ho_⟩:Below w5.heap.size w5 w_∧∃ u,vals_ 2=.agg #[.int .i64 a,.int .i64 b,u,.int .i64 n,.int .i64 d]∧Rw.Own EPt w_ w5.heap.size u xs:=hJ
   rw [q_] at e37
   refine Rg.rQ (by go_simp;exact ⟨rfl,rfl⟩) ?_
   refine (EQ.out _ _ _ _ _ (o4.out.below hb_).seen ho_.seen (xA _) (xA _)).mono ?_
   rintro e w6_ ⟨rfl,hb2_⟩
   exact ⟨_,rfl,hb_.trans (hb2_.mono hb_.size),rfl⟩
  ·unfold Rg.bK
   rw [if_neg (by decide)]
   intro ac_ w_ n_ vals_ hn_ hJ hr
   refine ⟨rfl,?_⟩
   have e38:ac_.tmps[38]?=some (vals_ 3):=hr 38 (by decide)
   rw [gG.val hJ (hn_.2.2 3 (by decide) (by kernel_rfl))] at e38
   (first | (go_simp;done) | (go_simp;omega) | (go_simp;rfl))
  intro vals wz hJ hv
  have v_4:vals 4=.bool false:=hv 4 (by decide) (by decide)
  simp only [Rg.ak,Rg.fill,Act.put,Nat.reduceAdd]
  clear hv
  simp only [v_4]
  clear v_4
  have hb:=gG.B hJ
  clear hJ
  go_wp2
  go_ret
  exact ⟨by simp,B.trans (hb.mono B.size)⟩
 have HS:=fun w (h:cJ w (.slice A xs.length cap) xs)=>fF a b n d (.slice A xs.length cap) xs w h
 simp only [if_neg hn] at HS
 replace HS:=ws HS
 generalize xs.length=L at *
 go_enter Tryz.func4,Tryz.ntmps4
 go_wp2_with fail
 refine (HS.out _ (Hx.out.keep B)).mono ?_;rintro e w1 ⟨rfl,b1⟩
 replace B:=B.trans (b1.mono B.size)
 go_wp2
 go_ret
 exact ⟨rfl,B⟩
end
section
open Go.ChangeShapes Go.WideShapes Go.ChangeAt Go.RowKit Go.Joins Go.Deep
theorem lI {H:Type} {enc:TypeId × Value→H} {P:Program} {w:World} {base fuel:Nat} {held:Bool} {t te ti:TypeId} {f0 f1 f2:Field} {v:Value} {x0:DataW H × List MemPlace}
  (ht:P.underlying t=some (.slice te)) (he:P.underlying te=some (.struct #[f0,f1,f2])) (t0:f0.type=ti) (t1:f1.type=ti) (t2:f2.type=ti) (hi:P.underlying ti=some (.int .i64)) (ce:P.cellsOf te=3) (o0:f0.offset=0) (o1:f1.offset=1) (o2:f2.offset=2)
  (ci:P.cellsOf ti=1) (hf:DataW.trod enc P w base (fun _=>true) held fuel t [v]=some x0) :
  ∃ xs:List Pt,cJ w v xs:=by
 obtain ⟨a1,len,cap,e⟩:=slice_form ht hf
 injection e with e _
 subst e
 rcases open_slice ht hf with ⟨hcs,hx⟩ | ⟨a,len',cap',m,n,D,Pl,hcs,hb,hl,hm,hmm,hx,hall⟩
 ·simp at hcs
  obtain ⟨rfl,rfl,rfl⟩:=hcs
  exact ⟨[],none,0,rfl,by simp,fun k hk=>absurd hk (by simp)⟩
 simp at hcs
 obtain ⟨rfl,rfl,rfl⟩:=hcs
 simp only [if_true] at hmm
 have each:∀ i,i<len→∃ q:Pt,w.cell? (a.add (i*3))=some (.int .i64 q.1)∧w.cell? (a.add (i*3+1))=some (.int .i64 q.2.1)∧w.cell? (a.add (i*3+2))=some (.int .i64 q.2.2):=by
  intro i hi2
  obtain ⟨cs',h1,h2⟩:=hall i (by omega)
  rw [ce] at h1
  obtain ⟨_,hlen,hcell⟩:=World.cells?_some h1
  obtain ⟨xs,k,hk,hxy,_,hxl,hfd⟩:=DataW.trod_struct he h2
  match xs,hxl,cs',hlen with
  | [y0,y1,y2],_,[v0,v1,v2],_=>
  have g0:=hfd 0 f0 rfl
  have g1:=hfd 1 f1 rfl
  have g2:=hfd 2 f2 rfl
  simp [o0,o1,o2,t0,t1,t2,ci] at g0 g1 g2
  have e0:=hcell 0 (by omega)
  have e1:=hcell 1 (by omega)
  have e2:=hcell 2 (by omega)
  rw [add_add] at e0 e1 e2
  obtain ⟨x,ex,-,-⟩:=DataW.trod_int hi g0
  obtain ⟨y,ey,-,-⟩:=DataW.trod_int hi g1
  obtain ⟨z,ez,-,-⟩:=DataW.trod_int hi g2
  simp only [List.cons.injEq,and_true] at ex ey ez
  subst ex ey ez
  refine ⟨(intOf (.int .i64 x),intOf (.int .i64 y),intOf (.int .i64 z)),?_,?_,?_⟩
  ·simpa [intOf] using e0
  ·simpa [intOf] using e1
  simpa [intOf] using e2
 obtain ⟨q,hq⟩:=choose_lt each
 refine ⟨(List.range len).map q,some a,cap,by simp,by simp;unfold maxLen at hm;omega,fun k hk=>?_⟩
 have hk':k<len:=by simpa using hk
 obtain ⟨h1,h2,h3⟩:=hq k hk'
 obtain ⟨ab,ao,spot⟩:=a
 have hspot:spot=none:=by simpa [Addr.add] using World.cell?_spot (hq 0 (by omega)).1
 subst hspot
 rw [Addr.add_lit] at h1 h2 h3
 exact ⟨ab,ao,q k,rfl,World.block_lt_of_cell? w _ h1,ws (by rw [List.getElem?_map,List.getElem?_range hk'];rfl),h1,by rw [Nat.add_assoc];exact h2,by rw [Nat.add_assoc];exact h3⟩
theorem vF {α:Type} {cs:Array α} (h:cs.size=5):∃ c0 c1 c2 c3 c4,cs=#[c0,c1,c2,c3,c4]:=by
 obtain ⟨l⟩:=cs
 match l,h with
 | [c0,c1,c2,c3,c4],_=>exact ⟨c0,c1,c2,c3,c4,rfl⟩
theorem kR {H:Type} {enc:TypeId × Value→H} {P:Program} {w:World} {base fuel:Nat} {spare:Nat→Bool} {held:Bool} {t ti:TypeId} {f0 f1:Field} {u v:Value} {x:DataW H × List MemPlace}
  (hs:P.underlying t=some (.struct #[f0,f1])) (h0:f0.type=ti) (h1:f1.type=ti) (hi:P.underlying ti=some (.int .i64)) (o0:f0.offset=0) (o1:f1.offset=1) (ci:P.cellsOf ti=1) (hf:DataW.trod enc P w base spare held fuel t [u,v]=some x) :
  ∃ a b,u=.int .i64 a∧v=.int .i64 b∧M.I64 a∧M.I64 b:=by
 obtain ⟨xs,n,-,-,-,hl,hfd⟩:=DataW.trod_struct hs hf
 match xs,hl with
 | [y0,y1],_=>
 have g0:=hfd 0 f0 rfl
 have g1:=hfd 1 f1 rfl
 simp [o0,o1,h0,h1,ci] at g0 g1
 obtain ⟨a,ea,-,wa⟩:=DataW.trod_int hi g0
 obtain ⟨b,eb,-,wb⟩:=DataW.trod_int hi g1
 simp only [List.cons.injEq,and_true] at ea eb
 exact ⟨a,b,ea,eb,M.kE wa,M.kE wb⟩
theorem open_cert {H:Type} {enc:TypeId × Value→H} {P:Program} {w:World} {base b0:Nat} {held:Bool} {r:Reach} {t tc ts te tf ti:TypeId} {f0 f1 f2 c0 c1 p0 p1 p2 r0 r1:Field} {v:Value} {d:DataW H} {ps:List MemPlace}
  (hs:P.underlying t=some (.struct #[f0,f1,f2])) (h0:f0.type=tc) (h1:f1.type=ts) (h2:f2.type=tf) (o0:f0.offset=0) (o1:f1.offset=2) (o2:f2.offset=3) (ct:P.cellsOf t=5)
  (hc:P.underlying tc=some (.struct #[c0,c1])) (hc0:c0.type=ti) (hc1:c1.type=ti) (oc0:c0.offset=0) (oc1:c1.offset=1) (cc:P.cellsOf tc=2)
  (hf:P.underlying tf=some (.struct #[r0,r1])) (hf0:r0.type=ti) (hf1:r1.type=ti) (of0:r0.offset=0) (of1:r1.offset=1) (cf:P.cellsOf tf=2)
  (hl:P.underlying ts=some (.slice te)) (cs1:P.cellsOf ts=1) (he:P.underlying te=some (.struct #[p0,p1,p2])) (t0:p0.type=ti) (t1:p1.type=ti) (t2:p2.type=ti) (ce:P.cellsOf te=3) (q0:p0.offset=0) (q1:p1.offset=1) (q2:p2.offset=2)
  (hi:P.underlying ti=some (.int .i64)) (ci:P.cellsOf ti=1) (hv:Value.okWide P w r b0 t v) (h:DataW.Trod enc P w base (fun _=>true) held t v d ps) :
  ∃ (a b n d:Int) (u:Value) (xs:List Pt),v=.agg #[.int .i64 a,.int .i64 b,u,.int .i64 n,.int .i64 d]∧M.I64 a∧M.I64 b∧M.I64 n∧M.I64 d∧cJ w u xs:=by
 obtain ⟨cs,rfl,hsz⟩:=okWide_struct hs hv
 obtain ⟨v0,v1,v2,v3,v4,rfl⟩:=vF (hsz.trans ct)
 obtain ⟨fuel,hf'⟩:=h
 obtain ⟨xs,n,-,-,-,hlen,hfd⟩:=DataW.trod_struct hs hf'
 match xs,hlen with
 | [y0,y1,y2],_=>
 have g0:=hfd 0 f0 rfl
 have g1:=hfd 1 f1 rfl
 have g2:=hfd 2 f2 rfl
 simp [Value.cells,o0,o1,o2,h0,h1,h2,cc,cs1,cf] at g0 g1 g2
 obtain ⟨a,b,rfl,rfl,ia,ib⟩:=kR hc hc0 hc1 hi oc0 oc1 ci g0
 obtain ⟨n,d,rfl,rfl,in',id'⟩:=kR hf hf0 hf1 hi of0 of1 ci g2
 obtain ⟨l,hp⟩:=lI hl he t0 t1 t2 hi ce q0 q1 q2 ci g1
 exact ⟨a,b,n,d,v2,l,rfl,ia,ib,in',id',hp⟩
end
end Go.Proofs.YtgfkcoablfjbcaaGreat
