/-
  Joined texts: contracts and plain lemmas.
-/
import Derived.Test.YthfjndmdalfloaaGreatU28
import Derived.Test.YthfjndmdalfloaaGreatRows
import Derived.Test.YthfjndmdalfloaaGreatU1
import Derived.WalkKit
import Derived.ProofKit
import Derived.OpenShut
import Derived.Lib.SmallJoins
import Derived.Below
import Derived.Carry
import Derived.Deep.Slices
set_option linter.unusedSimpArgs false
set_option linter.unusedVariables false
set_option maxRecDepth 100000
set_option maxHeartbeats 8000000
namespace Go.Proofs.YthfjndmdalfloaaGreat
section
open Go.RowKit
namespace M
theorem plist_is {a b:Int} {l:List Pt} (h:plist a b l=true):good a b=true∧1≤l.length∧l.length≤4∧∀ p ∈ l,ptOk a b p.1 p.2.1 p.2.2=true:=by
 unfold plist at h
 rw [Bool.and_eq_true,Bool.and_eq_true] at h
 obtain ⟨⟨h1,h2⟩,h3⟩:=h
 unfold ins at h2
 simp only [Bool.and_eq_true,decide_eq_true_eq] at h2
 exact ⟨h1,by omega,by omega,List.all_eq_true.1 h3⟩
theorem lr {a b:Int} {l:List Pt}:okS (regS a b l):=by
 cases h:mOk a b l
 ·rw [regS_no h];exact bg
 ·rw [regS_yes h];exact okS_det (pRows_ok h) _
noncomputable def regV (a b:Int) (l:List Pt):Sp:=if plist a b l=true then regS a b l else none
theorem regV_no {a b:Int} {l:List Pt} (h:plist a b l=false):regV a b l=none:=by unfold regV;rw [h];rfl
theorem regV_yes {a b:Int} {l:List Pt} (h:plist a b l=true):regV a b l=regS a b l:=by unfold regV;rw [h];rfl
theorem okS_regV {a b:Int} {l:List Pt}:okS (regV a b l):=by
 cases h:plist a b l
 ·rw [regV_no h];exact bg
 ·rw [regV_yes h];exact lr
theorem pick_in {s:Sp} (h:okS s):pick (s.isSome && spanOk (slo s) (shi s)) (pn (slo s))=in1 s∧pick (s.isSome && spanOk (slo s) (shi s)) (pd (slo s))=in2 s∧pick (s.isSome && spanOk (slo s) (shi s)) (pn (shi s))=in3 s∧pick (s.isSome && spanOk (slo s) (shi s)) (pd (shi s))=in4 s∧(s.isSome && spanOk (slo s) (shi s))=s.isSome:=by
 cases s with
 | none=>exact ⟨rfl,rfl,rfl,rfl,rfl⟩
 | some p=>
  have hs:=h p rfl
  have e:((some p:Sp).isSome && spanOk (slo (some p)) (shi (some p)))=true:=hs
  rw [e]
  exact ⟨rfl,rfl,rfl,rfl,rfl⟩
end M
theorem da (a b:Int) (v:Value) (l:List Pt) (w:World) (hx:dK w v l) (hn:l.length≤4000000) :
  Calls Tryz.prog 25 #[.agg #[.int .i64 a,.int .i64 b],v] w fun e w'=>e=.returned (.tuple #[.agg #[.int .i64 (M.in1 (M.regV a b l)),.int .i64 (M.in2 (M.regV a b l)),.int .i64 (M.in3 (M.regV a b l)),.int .i64 (M.in4 (M.regV a b l))],.bool (M.regV a b l).isSome])∧Below w.heap.size w w':=by
 have PL:=fun W h=>gM a b v l W h hn
 have PR:=fun (hp:M.plist a b l=true) W h=>(gZ) a b v l W h (M.plist_is hp).1 (M.plist_is hp).2.1 (M.plist_is hp).2.2.1 (M.plist_is hp).2.2.2
 have hyes:=fun h=>M.regV_yes (a:=a) (b:=b) (l:=l) h
 have hno:=fun h=>M.regV_no (a:=a) (b:=b) (l:=l) h
 have hok:=M.okS_regV (a:=a) (b:=b) (l:=l)
 generalize M.regV a b l=rv at *
 replace hx:=Lib.hid hx
 obtain ⟨wc,hw3,C,R,B⟩:=gE w #[.int .i64 a,.int .i64 b] 28 #[.int .i64 0,.int .i64 0,.int .i64 0,.int .i64 0] 38
 have hxc:=Lib.hid (hx.out.below B)
 have C_c0:=C.box.c0
 have C_c1:=C.box.c1
 cases hp:M.plist a b l with
 | false=>
  rw [hp] at PL
  have hfin:=Lib.hid (hno hp)
  replace PL:=Lib.hid PL
  clear PR hyes hno hp hok
  rw [hfin.out]
  go_enter Tryz.func25,Tryz.ntmps25
  go_wp2_with (go_at_call 29;(with_reducible refine (PL.out _ hxc.out).mono ?_);rintro e w4 ⟨rfl,hb4⟩;(replace B:=B.trans (hb4.mono B.size));(replace C:=C.keep hb4);(replace hxc:=Lib.hid (hxc.out.below hb4));(have C_c0:=C.box.c0);(have C_c1:=C.box.c1);(replace R:=R.keep hb4);(have ⟨r0,r1,r2,r3,z0,z1,z2,z3,rl⟩:=R.boxQ))
  exact bodyPost_ret (v:=.tuple #[.agg #[.int .i64 0,.int .i64 0,.int .i64 0,.int .i64 0],.bool false]) (by simp [results,Tryz.results25,go_sem, *]) rfl (⟨rfl,Below.setCell (Below.setCell (Below.setCell (Below.setCell B (by simp) _) (by simp) _) (by simp) _) (by simp) _⟩)
 | true=>
  rw [hp] at PL
  replace PR:=PR hp
  rw [←hyes hp] at PR
  replace PL:=Lib.hid PL
  clear hyes hno hp
  have PI:=fun W=>iK (M.slo rv) (M.shi rv) rv.isSome W
  obtain ⟨q1,q2,q3,q4,q5⟩:=M.pick_in hok
  rw [q1,q2,q3,q4,q5] at PI
  clear q1 q2 q3 q4 q5
  generalize M.in1 rv=i1 at *
  generalize M.in2 rv=i2 at *
  generalize M.in3 rv=i3 at *
  generalize M.in4 rv=i4 at *
  replace PI:=Lib.hid PI
  clear hok
  generalize rv.isSome=f at *
  generalize M.slo rv=lo at *
  generalize M.shi rv=hi at *
  replace PR:=Lib.hid PR
  go_enter Tryz.func25,Tryz.ntmps25
  go_wp2_with first | (go_at_call 29;(with_reducible refine (PL.out _ hxc.out).mono ?_);rintro e w4 ⟨rfl,hb4⟩;(replace B:=B.trans (hb4.mono B.size));(replace C:=C.keep hb4);(replace hxc:=Lib.hid (hxc.out.below hb4));(have C_c0:=C.box.c0);(have C_c1:=C.box.c1);(replace R:=R.keep hb4);(have ⟨r0,r1,r2,r3,z0,z1,z2,z3,rl⟩:=R.boxQ)) | (go_at_call 30;(with_reducible refine (PR.out _ hxc.out).mono ?_);rintro e w5 ⟨rfl,hb5⟩;(replace B:=(B.trans (hb5.mono B.size)).alloc (Nat.le_trans B.size hb5.size) (.cells #[.int .i64 lo,.int .i64 hi] 58));(replace R:=(R.keep hb5).alloc (.cells #[.int .i64 lo,.int .i64 hi] 58));(have V:=aG.new w5 #[.int .i64 lo,.int .i64 hi] 58);(have ⟨v0,v1,_,_,_⟩:=V.box)) | (go_at_call 42;(with_reducible refine (PI.out _).mono ?_);rintro e w6 ⟨rfl,hb6⟩;(replace B:=B.trans (hb6.mono B.size));(replace R:=R.keep hb6);(have ⟨r0,r1,r2,r3,z0,z1,z2,z3,rl⟩:=R.boxQ))
  exact bodyPost_ret (v:=.tuple #[.agg #[.int .i64 i1,.int .i64 i2,.int .i64 i3,.int .i64 i4],.bool f]) (by simp [results,Tryz.results25,go_sem, *]) rfl (⟨rfl,Below.setCell (Below.setCell (Below.setCell (Below.setCell B (by simp) _) (by simp) _) (by simp) _) (by simp) _⟩)
theorem dh (a b:Int) (v:Value) (l:List Pt) (w:World) (hx:dK w v l) (hn:l.length≤4000000) :
  Calls Tryz.prog 24 #[.agg #[.int .i64 a,.int .i64 b],v] w fun e w'=>e=.returned (.tuple #[.agg #[.int .i64 (M.in1 (M.regV a b l)),.int .i64 (M.in2 (M.regV a b l)),.int .i64 (M.in3 (M.regV a b l)),.int .i64 (M.in4 (M.regV a b l))],.bool (M.regV a b l).isSome])∧Below w.heap.size w w':=by
 have PL:=fun W h=>kd a b v l W h hn
 have PR:=fun (hp:M.plist a b l=true) W h=>(fK) a b v l W h (M.plist_is hp).1 (M.plist_is hp).2.1 (M.plist_is hp).2.2.1 (M.plist_is hp).2.2.2
 have hyes:=fun h=>M.regV_yes (a:=a) (b:=b) (l:=l) h
 have hno:=fun h=>M.regV_no (a:=a) (b:=b) (l:=l) h
 have hok:=M.okS_regV (a:=a) (b:=b) (l:=l)
 generalize M.regV a b l=rv at *
 replace hx:=Lib.hid hx
 obtain ⟨wc,hw3,C,R,B⟩:=gE w #[.int .i64 a,.int .i64 b] 28 #[.int .i64 0,.int .i64 0,.int .i64 0,.int .i64 0] 38
 have hxc:=Lib.hid (hx.out.below B)
 have C_c0:=C.box.c0
 have C_c1:=C.box.c1
 cases hp:M.plist a b l with
 | false=>
  rw [hp] at PL
  have hfin:=Lib.hid (hno hp)
  replace PL:=Lib.hid PL
  clear PR hyes hno hp hok
  rw [hfin.out]
  go_enter Tryz.func24,Tryz.ntmps24
  go_wp2_with (go_at_call 26;(with_reducible refine (PL.out _ hxc.out).mono ?_);rintro e w4 ⟨rfl,hb4⟩;(replace B:=B.trans (hb4.mono B.size));(replace C:=C.keep hb4);(replace hxc:=Lib.hid (hxc.out.below hb4));(have C_c0:=C.box.c0);(have C_c1:=C.box.c1);(replace R:=R.keep hb4);(have ⟨r0,r1,r2,r3,z0,z1,z2,z3,rl⟩:=R.boxQ))
  exact bodyPost_ret (v:=.tuple #[.agg #[.int .i64 0,.int .i64 0,.int .i64 0,.int .i64 0],.bool false]) (by simp [results,Tryz.results24,go_sem, *]) rfl (⟨rfl,Below.setCell (Below.setCell (Below.setCell (Below.setCell B (by simp) _) (by simp) _) (by simp) _) (by simp) _⟩)
 | true=>
  rw [hp] at PL
  replace PR:=PR hp
  rw [←hyes hp] at PR
  replace PL:=Lib.hid PL
  clear hyes hno hp
  generalize M.in1 rv=i1 at *
  generalize M.in2 rv=i2 at *
  generalize M.in3 rv=i3 at *
  generalize M.in4 rv=i4 at *
  clear hok
  generalize rv.isSome=f at *
  replace PR:=Lib.hid PR
  go_enter Tryz.func24,Tryz.ntmps24
  go_wp2_with first | (go_at_call 26;(with_reducible refine (PL.out _ hxc.out).mono ?_);rintro e w4 ⟨rfl,hb4⟩;(replace B:=B.trans (hb4.mono B.size));(replace C:=C.keep hb4);(replace hxc:=Lib.hid (hxc.out.below hb4));(have C_c0:=C.box.c0);(have C_c1:=C.box.c1);(replace R:=R.keep hb4);(have ⟨r0,r1,r2,r3,z0,z1,z2,z3,rl⟩:=R.boxQ)) | (go_at_call 27;(with_reducible refine (PR.out _ hxc.out).mono ?_);rintro e w5 ⟨rfl,hb5⟩;(replace B:=B.trans (hb5.mono B.size));(replace R:=R.keep hb5);(have ⟨r0,r1,r2,r3,z0,z1,z2,z3,rl⟩:=R.boxQ))
  exact bodyPost_ret (v:=.tuple #[.agg #[.int .i64 i1,.int .i64 i2,.int .i64 i3,.int .i64 i4],.bool f]) (by simp [results,Tryz.results24,go_sem, *]) rfl (⟨rfl,Below.setCell (Below.setCell (Below.setCell (Below.setCell B (by simp) _) (by simp) _) (by simp) _) (by simp) _⟩)
end
section
open Go.ChangeShapes Go.WideShapes Go.ChangeAt Go.RowKit Go.Joins Go.Deep
theorem own:ownKnob Tryz.prog.godebug=none:=by kernel_rfl
theorem laidOut:laidOutB Tryz.prog=true:=by kernel_rfl
theorem M.i64_of_wf {a:Int} (h:(Lit.int .i64 a).wf=true):M.I64 a:=by
 have:=bounds_i64 h
 exact this
section
variable {H:Type} {enc:TypeId × Value→H} {P:Program} {w:World} {base:Nat} {spare:Nat→Bool} {held:Bool}
theorem open_2i {r:Reach} {b0:Nat} {t ti:TypeId} {f0 f1:Field} {v:Value} {d:DataW H} {p:List MemPlace} (hs:P.underlying t=some (.struct #[f0,f1])) (h0:f0.type=ti) (h1:f1.type=ti) (hi:P.underlying ti=some (.int .i64)) (hone:oneCellFields P #[f0,f1]=true) (hC:P.cellsOf t=2)
  (hv:Value.okWide P w r b0 t v) (h:DataW.Trod enc P w base spare held t v d p) :
  ∃ a b,v=.agg #[.int .i64 a,.int .i64 b]∧M.I64 a∧M.I64 b:=by
 obtain ⟨v0,v1,y0,y1,n,rfl,-,-,g0,g1⟩:=open_agg2 hs hone hC hv h
 rw [h0] at g0
 rw [h1] at g1
 obtain ⟨a,ea,-,wa⟩:=DataW.trod_int hi g0
 obtain ⟨b,eb,-,wb⟩:=DataW.trod_int hi g1
 simp only [List.cons.injEq,and_true] at ea eb
 subst ea eb
 exact ⟨a,b,rfl,M.i64_of_wf wa,M.i64_of_wf wb⟩
theorem dO (hl:laidOutB P=true):∀ (ts:List TypeId) (hts:∀ t ∈ ts,P.readableRec t=true∧t<P.types.size) {W W':World} {vs:List Value} {ds:List (DataW H)} {ps:List MemPlace}
  (_:DataW.TrodAll enc P W 0 (fun _=>true) true ts vs ds ps) (_:Below W.heap.size W W') (_:∀ x ∈ ps,x.block<W.heap.size),DataW.TrodAll enc P W' 0 (fun b=>decide (b<W.heap.size)) true ts vs ds ps
 | [],_,_,_,_,_,_,h,_,_=>by
  obtain ⟨rfl,rfl,rfl⟩:=trodAll_nil h
  exact trodAll_mk0
 | t :: ts,hts,_,_,_,_,_,h,hb,hlt=>by
  obtain ⟨v,vs',d,ds',p,q,rfl,rfl,rfl,h1,h2⟩:=trodAll_cons h
  refine ⟨p,q,Below.trod hl (hts t List.mem_cons_self).1 (hts t List.mem_cons_self).2 h1 hb fun x hx=>hlt x (List.mem_append_left _ hx),?_,rfl⟩
  exact dO hl ts (fun t' ht'=>hts t' (List.mem_cons_of_mem _ ht')) h2 hb fun x hx=>hlt x (List.mem_append_right _ hx)
theorem law_post {f:Func} {s:ChangeSpec} {W W':World} {args:Array Value} {ds:List (DataW H)} {before:List MemPlace} {tb:TypeId}
  (hl:laidOutB P=true) (hts:∀ t ∈ f.params.toList,P.readableRec t=true∧t<P.types.size)
  (hvars:s.vars=[]) (hf:s.fn H ds={ results:=[.lit (.bool true)],args:=ds }) (hrt:f.resultTypes=#[tb]) (hbool:P.underlying tb=some .bool)
  (hW:DataW.Whole enc P f.params.toList s.vars false W args.toList ds [] before) (hb:Below W.heap.size W W') :
  s.post enc P f false true false false W args (.bool true) W':=by
 have hlt:∀ p ∈ before,p.block<W.heap.size:=fun p hp=>hW.lt p hp
 obtain ⟨p,q,hA,hV,hpq,hz,hn⟩:=id hW
 rw [hvars] at hV
 obtain ⟨_,rfl⟩:=trodVars_none hV
 have hbp:before=p:=by simpa using hpq
 subst hbp
 have e1:s.fn H (ds ++ [])={ results:=[.lit (.bool true)],args:=ds }:=by rw [List.append_nil];exact hf
 refine ⟨ds,[],before,[],before,[],hW,?_,?_,?_,World.keptBut_mono (fun x hx=>⟨hx,Or.inr (Or.inl hx)⟩) (hb.frame (· ∈ before)),fun h=>by cases h⟩
 ·rw [e1,hrt]
  exact trodAll_mk1 (shut_bool hbool true)
 ·rw [e1]
  exact dO hl _ hts hA hb hlt
 ·rw [e1,hvars]
  exact rfl
end
def iI (w:World) (v:Value) (xs:List Int):Prop:=
 ∃ (A:Option Addr) (cap:Nat),v=.slice A xs.length cap∧(xs.length:Int)≤9223372036854775807∧
  ∀ k,k<xs.length→∃ g o x,A=some ⟨g,o,none⟩∧g<w.heap.size∧Hid (xs[k]?=some x)∧w.cell? ⟨g,o+k,none⟩=some (.int .i64 x)
theorem iI.keep {w w':World} {v:Value} {xs:List Int} (h:iI w v xs) (hb:Below w.heap.size w w'):iI w' v xs:=by
 obtain ⟨A,cap,rfl,hm,hv⟩:=h
 refine ⟨A,cap,rfl,hm,fun k hk=>?_⟩
 obtain ⟨g,o,x,hA,hg,hx,h0⟩:=hv k hk
 exact ⟨g,o,x,hA,Nat.lt_of_lt_of_le hg hb.size,hx,aE hb h0⟩
theorem open_points {H:Type} {enc:TypeId × Value→H} {P:Program} {w:World} {base b0:Nat} {held:Bool} {r:Reach} {t te ti:TypeId} {f0 f1 f2:Field} {v:Value} {d:DataW H} {ps:List MemPlace}
  (ht:P.underlying t=some (.slice te)) (he:P.underlying te=some (.struct #[f0,f1,f2])) (t0:f0.type=ti) (t1:f1.type=ti) (t2:f2.type=ti) (hi:P.underlying ti=some (.int .i64)) (ce:P.cellsOf te=3) (o0:f0.offset=0) (o1:f1.offset=1) (o2:f2.offset=2)
  (ci:P.cellsOf ti=1) (hv:Value.okWide P w r b0 t v) (h:DataW.Trod enc P w base (fun _=>true) held t v d ps) :
  ∃ xs:List Pt,bJ w v xs:=by
 obtain ⟨a1,len,cap,rfl⟩:=okWide_slice ht hv
 obtain ⟨fuel,hf⟩:=h
 rcases open_slice ht hf with ⟨hcs,hx⟩ | ⟨a,len',cap',m,n,D,Pl,hcs,hb,hl,hm,hmm,hx,hall⟩
 ·simp [Value.cells] at hcs
  obtain ⟨rfl,rfl,rfl⟩:=hcs
  exact ⟨[],none,0,rfl,by simp,fun k hk=>absurd hk (by simp)⟩
 ·simp [Value.cells] at hcs
  obtain ⟨rfl,rfl,rfl⟩:=hcs
  simp only [if_true] at hmm
  have each:∀ i,i<len→∃ q:Pt,w.cell? (a.add (i*3))=some (.int .i64 q.1)∧w.cell? (a.add (i*3+1))=some (.int .i64 q.2.1)∧w.cell? (a.add (i*3+2))=some (.int .i64 q.2.2):=by
   intro i hi2
   obtain ⟨cs',h1,h2⟩:=hall i (by omega)
   rw [ce] at h1
   obtain ⟨_,hlen,hcell⟩:=World.cells?_some h1
   obtain ⟨xs,k,hk,hxy,_,hxl,hfd⟩:=DataW.trod_struct he h2
   match xs,hxl,cs',hlen with
   | [y0,y1,y2],_,[v0,v1,v2],_=>
    have g0:=hfd 0 f0 rfl
    have g1:=hfd 1 f1 rfl
    have g2:=hfd 2 f2 rfl
    simp [o0,o1,o2,t0,t1,t2,ci] at g0 g1 g2
    have e0:=hcell 0 (by omega)
    have e1:=hcell 1 (by omega)
    have e2:=hcell 2 (by omega)
    rw [add_add] at e0 e1 e2
    obtain ⟨x,ex,-,-⟩:=DataW.trod_int hi g0
    obtain ⟨y,ey,-,-⟩:=DataW.trod_int hi g1
    obtain ⟨z,ez,-,-⟩:=DataW.trod_int hi g2
    simp only [List.cons.injEq,and_true] at ex ey ez
    subst ex ey ez
    refine ⟨(intOf (.int .i64 x),intOf (.int .i64 y),intOf (.int .i64 z)),?_,?_,?_⟩
    ·simpa [intOf] using e0
    ·simpa [intOf] using e1
    ·simpa [intOf] using e2
  obtain ⟨q,hq⟩:=choose_lt each
  refine ⟨(List.range len).map q,some a,cap,by simp,by simp;unfold maxLen at hm;omega,fun k hk=>?_⟩
  have hk':k<len:=by simpa using hk
  obtain ⟨h1,h2,h3⟩:=hq k hk'
  obtain ⟨ab,ao,spot⟩:=a
  have hspot:spot=none:=by simpa [Addr.add] using World.cell?_spot (hq 0 (by omega)).1
  subst hspot
  rw [Addr.add_lit] at h1 h2 h3
  exact ⟨ab,ao,q k,rfl,World.block_lt_of_cell? w _ h1,Lib.hid (by rw [List.getElem?_map,List.getElem?_range hk'];rfl),h1,by rw [Nat.add_assoc];exact h2,by rw [Nat.add_assoc];exact h3⟩
end
section
open Go.RowKit Go.Shelf
theorem gU (a b c d:Int) (w:World) :
  Calls Tryz.prog 43 #[.agg #[.int .i64 a,.int .i64 b],.agg #[.int .i64 c,.int .i64 d]] w fun e w'=>e=.returned (.bool (decide ((a,b)=(c,d))))∧Below w.heap.size w w':=by
 by_cases h1:a=c <;> by_cases h2:b=d
 all_goals
  go_enter Tryz.func43,Tryz.ntmps43
  go_wp2
  go_ret;exact ⟨bF (by simp [h1,h2]),(by repeat (first | exact Below.refl _ _ | refine aL ?_ _ | refine aM ?_ (by assumption) | refine Below.drew ?_ | refine Below.setCell ?_ (by first | exact Nat.le_refl _ | exact Nat.le_add_right _ _ | (simp <;> omega)) _ | refine aJ ?_ _))⟩
theorem ft (a1 a2 a3 a4 b1 b2 b3 b4:Int) (w:World) :
  Calls Tryz.prog 16 #[.agg #[.int .i64 a1,.int .i64 a2,.int .i64 a3,.int .i64 a4],.agg #[.int .i64 b1,.int .i64 b2,.int .i64 b3,.int .i64 b4]] w fun e w'=>e=.returned (.bool (decide ((a1,a2,a3,a4)=(b1,b2,b3,b4))))∧Below w.heap.size w w':=by
 have P1:=fun W=>gU a1 a2 b1 b2 W
 have P2:=fun W=>gU a3 a4 b3 b4 W
 have hd:decide ((a1,a2,a3,a4)=(b1,b2,b3,b4))=(decide ((a1,a2)=(b1,b2)) && decide ((a3,a4)=(b3,b4))):=by
  rw [←Bool.decide_and]
  simp only [Prod.mk.injEq]
  congr 1
  simp only [and_assoc]
 rw [hd]
 clear hd
 have B:=((Below.refl w.heap.size w).alloc (Nat.le_refl _) (.cells #[.int .i64 a1,.int .i64 a2,.int .i64 a3,.int .i64 a4] 38)).alloc (by rw [World.size_alloc];omega) (.cells #[.int .i64 b1,.int .i64 b2,.int .i64 b3,.int .i64 b4] 38)
 have Q:=(aG.new w #[.int .i64 a1,.int .i64 a2,.int .i64 a3,.int .i64 a4] 38).alloc (.cells #[.int .i64 b1,.int .i64 b2,.int .i64 b3,.int .i64 b4] 38)
 have R:=aG.new (w.alloc (.cells #[.int .i64 a1,.int .i64 a2,.int .i64 a3,.int .i64 a4] 38)) #[.int .i64 b1,.int .i64 b2,.int .i64 b3,.int .i64 b4] 38
 rw [World.size_alloc] at R
 generalize hw3:(w.alloc (.cells #[.int .i64 a1,.int .i64 a2,.int .i64 a3,.int .i64 a4] 38)).alloc (.cells #[.int .i64 b1,.int .i64 b2,.int .i64 b3,.int .i64 b4] 38)=wc at *
 have ⟨q0,q1,q2,q3,_,_,_,_,_⟩:=Q.boxQ
 have ⟨r0,r1,r2,r3,_,_,_,_,_⟩:=R.boxQ
 generalize decide ((a1,a2)=(b1,b2))=t1 at *
 generalize decide ((a3,a4)=(b3,b4))=t2 at *
 replace P1:=Lib.hid P1
 replace P2:=Lib.hid P2
 cases t1 with
 | false=>
  go_enter Tryz.func16,Tryz.ntmps16
  go_wp2_with (go_at_call 43;(with_reducible refine (P1.out _).mono ?_);rintro e w5 ⟨rfl,hb5⟩;(replace B:=B.trans (hb5.mono B.size));(replace Q:=Q.keep hb5);(replace R:=R.keep hb5);(have ⟨q0,q1,q2,q3,_,_,_,_,_⟩:=Q.boxQ);(have ⟨r0,r1,r2,r3,_,_,_,_,_⟩:=R.boxQ))
  go_ret
  exact ⟨rfl,B⟩
 | true=>
  cases t2 with
  | false=>
   go_enter Tryz.func16,Tryz.ntmps16
   go_wp2_with first | (go_at_call 43;(with_reducible refine (P1.out _).mono ?_);rintro e w5 ⟨rfl,hb5⟩;(replace B:=B.trans (hb5.mono B.size));(replace Q:=Q.keep hb5);(replace R:=R.keep hb5);(have ⟨q0,q1,q2,q3,_,_,_,_,_⟩:=Q.boxQ);(have ⟨r0,r1,r2,r3,_,_,_,_,_⟩:=R.boxQ)) | (go_at_call 43;(with_reducible refine (P2.out _).mono ?_);rintro e w6 ⟨rfl,hb6⟩;(replace B:=B.trans (hb6.mono B.size)))
   go_ret
   exact ⟨rfl,B⟩
  | true=>
   go_enter Tryz.func16,Tryz.ntmps16
   go_wp2_with first | (go_at_call 43;(with_reducible refine (P1.out _).mono ?_);rintro e w5 ⟨rfl,hb5⟩;(replace B:=B.trans (hb5.mono B.size));(replace Q:=Q.keep hb5);(replace R:=R.keep hb5);(have ⟨q0,q1,q2,q3,_,_,_,_,_⟩:=Q.boxQ);(have ⟨r0,r1,r2,r3,_,_,_,_,_⟩:=R.boxQ)) | (go_at_call 43;(with_reducible refine (P2.out _).mono ?_);rintro e w6 ⟨rfl,hb6⟩;(replace B:=B.trans (hb6.mono B.size)))
   go_ret
   exact ⟨rfl,B⟩
theorem law_RegulatorIn (a b:Int) (_:M.I64 a) (_:M.I64 b) (v:Value) (xs:List Pt) (w:World) (hx:bJ w v xs) :
  Calls Tryz.prog 6 #[.agg #[.int .i64 a,.int .i64 b],v] w fun e w'=>e=.returned (.bool true)∧Below w.heap.size w w':=by
 have e1:=fun v w h hn=>dh a b v xs w h hn
 have e2:=fun v w h hn=>da a b v xs w h hn
 generalize M.regV a b xs=rv at *
 generalize M.in1 rv=i1 at *
 generalize M.in2 rv=i2 at *
 generalize M.in3 rv=i3 at *
 generalize M.in4 rv=i4 at *
 generalize rv.isSome=f at *
 have EI:=fun w=>ft i1 i2 i3 i4 i1 i2 i3 i4 w
 rw [decide_eq_true rfl] at EI
 have EI:=Lib.hid EI
 have E1:=Lib.hid e1
 have E2:=Lib.hid e2
 clear e1 e2
 have TCu:=Lib.hid fun w=>iZ a b w
 have hd2:decide (xs=xs)=true:=by simp
 have EQ:=fun v u w h1 h2 hx hy p q=>ia v u xs xs w h1 h2 hx hy p q
 rw [hd2] at EQ
 have EQ:=Lib.hid EQ
 clear hd2
 have Hx:=Lib.hid hx
 by_cases hn:xs.length≤1048576
 ·have hL:0≤(1048576:Int) - xs.length:=by omega
  obtain ⟨A,cap,rfl,-,-⟩:=hx
  have TC:=fun w (h:bJ w (.slice A xs.length cap) xs)=>iM (.slice A xs.length cap) xs w h hn
  have TC:=Lib.hid TC
  have HS:=fun w (h:bJ w (.slice A xs.length cap) xs)=>ek (.slice A xs.length cap) xs w h
  simp only [if_pos hn] at HS
  have HS:=Lib.hid HS
  have hn4:xs.length≤4000000:=by omega
  have B:=(Below.refl w.heap.size w).alloc (Nat.le_refl _) (.cells #[.int .i64 a,.int .i64 b] 23)
  have C:=aG.new w #[.int .i64 a,.int .i64 b] 23
  replace Hx:=Lib.hid (Hx.out.keep B)
  generalize hw3:w.alloc (.cells #[.int .i64 a,.int .i64 b] 23)=wc at *
  have k0:=C.box.c0
  have k1:=C.box.c1
  generalize xs.length=L at *
  generalize hM:(1048576:Int) - L=M0 at *
  go_enter Tryz.func6,Tryz.ntmps6
  go_wp2_with fail
  refine (HS.out _ Hx.out).mono ?_;rintro e w0 ⟨rfl,rfl⟩
  go_wp2_with fail
  refine (TCu.out _).mono ?_;rintro e w1 ⟨rfl,b1⟩
  replace B:=B.trans (b1.mono B.size)
  replace C:=C.keep b1
  have k0:=C.box.c0
  have k1:=C.box.c1
  replace Hx:=Lib.hid (Hx.out.keep b1)
  go_wp2_with fail
  refine (TC.out _ Hx.out).mono ?_;rintro e w2 ⟨v2,rfl,o2,b2⟩
  replace B:=B.trans (b2.mono B.size)
  replace C:=C.keep b2
  have k0:=C.box.c0
  have k1:=C.box.c1
  replace Hx:=Lib.hid (Hx.out.keep b2)
  go_wp2_with fail
  refine (E1.out _ _ o2.seen.pts hn4).mono ?_;rintro e w3 ⟨rfl,b3⟩
  replace B:=B.trans (b3.mono B.size)
  replace C:=C.keep b3
  have k0:=C.box.c0
  have k1:=C.box.c1
  replace Hx:=Lib.hid (Hx.out.keep b3)
  have Bx:=(Below.refl w3.heap.size w3).alloc (Nat.le_refl _) (.cells #[.int .i64 i1,.int .i64 i2,.int .i64 i3,.int .i64 i4] 38)
  have V:=aG.new w3 #[.int .i64 i1,.int .i64 i2,.int .i64 i3,.int .i64 i4] 38
  replace B:=B.trans (Bx.mono B.size)
  replace C:=C.keep Bx
  have k0:=C.box.c0
  have k1:=C.box.c1
  replace Hx:=Lib.hid (Hx.out.keep Bx)
  clear Bx
  have ⟨v_0,v_1,v_2,v_3,_,_,_,_,_⟩:=V.boxQ
  go_wp2_with fail
  refine (TC.out _ Hx.out).mono ?_;rintro e w4 ⟨v4,rfl,o4,b4⟩
  replace B:=B.trans (b4.mono B.size)
  replace C:=C.keep b4
  have k0:=C.box.c0
  have k1:=C.box.c1
  replace Hx:=Lib.hid (Hx.out.keep b4)
  replace V:=V.keep b4
  have ⟨v_0,v_1,v_2,v_3,_,_,_,_,_⟩:=V.boxQ
  go_wp2_with fail
  refine (TCu.out _).mono ?_;rintro e w5 ⟨rfl,b5⟩
  replace B:=B.trans (b5.mono B.size)
  replace C:=C.keep b5
  have k0:=C.box.c0
  have k1:=C.box.c1
  replace Hx:=Lib.hid (Hx.out.keep b5)
  replace V:=V.keep b5
  have ⟨v_0,v_1,v_2,v_3,_,_,_,_,_⟩:=V.boxQ
  replace o4:=o4.below b5
  go_wp2_with fail
  refine (E2.out _ _ o4.seen.pts hn4).mono ?_;rintro e w6 ⟨rfl,b6⟩
  replace B:=B.trans (b6.mono B.size)
  replace C:=C.keep b6
  have k0:=C.box.c0
  have k1:=C.box.c1
  replace Hx:=Lib.hid (Hx.out.keep b6)
  replace V:=V.keep b6
  have ⟨v_0,v_1,v_2,v_3,_,_,_,_,_⟩:=V.boxQ
  replace o4:=o4.below b6
  have Bx:=(Below.refl w6.heap.size w6).alloc (Nat.le_refl _) (.cells #[.int .i64 i1,.int .i64 i2,.int .i64 i3,.int .i64 i4] 38)
  have U:=aG.new w6 #[.int .i64 i1,.int .i64 i2,.int .i64 i3,.int .i64 i4] 38
  replace B:=B.trans (Bx.mono B.size)
  replace C:=C.keep Bx
  have k0:=C.box.c0
  have k1:=C.box.c1
  replace Hx:=Lib.hid (Hx.out.keep Bx)
  replace V:=V.keep Bx
  have ⟨v_0,v_1,v_2,v_3,_,_,_,_,_⟩:=V.boxQ
  replace o4:=o4.below Bx
  clear Bx
  have ⟨u_0,u_1,u_2,u_3,_,_,_,_,_⟩:=U.boxQ
  go_wp2_with fail
  refine (EI.out _).mono ?_;rintro e w7 ⟨rfl,b7⟩
  replace B:=B.trans (b7.mono B.size)
  replace C:=C.keep b7
  have k0:=C.box.c0
  have k1:=C.box.c1
  replace Hx:=Lib.hid (Hx.out.keep b7)
  replace V:=V.keep b7
  have ⟨v_0,v_1,v_2,v_3,_,_,_,_,_⟩:=V.boxQ
  replace U:=U.keep b7
  have ⟨u_0,u_1,u_2,u_3,_,_,_,_,_⟩:=U.boxQ
  replace o4:=o4.below b7
  go_wp2_with fail
  refine (TC.out _ Hx.out).mono ?_;rintro e w8 ⟨v8,rfl,o8,b8⟩
  replace B:=B.trans (b8.mono B.size)
  replace C:=C.keep b8
  have k0:=C.box.c0
  have k1:=C.box.c1
  replace Hx:=Lib.hid (Hx.out.keep b8)
  replace V:=V.keep b8
  have ⟨v_0,v_1,v_2,v_3,_,_,_,_,_⟩:=V.boxQ
  replace U:=U.keep b8
  have ⟨u_0,u_1,u_2,u_3,_,_,_,_,_⟩:=U.boxQ
  replace o4:=o4.below b8
  go_wp2_with fail
  refine (EQ.out _ _ _ _ _ o4.seen o8.seen (Nat.le_refl _) (Nat.le_refl _)).mono ?_;rintro e w9 ⟨rfl,b9⟩
  replace B:=B.trans (b9.mono B.size)
  replace C:=C.keep b9
  have k0:=C.box.c0
  have k1:=C.box.c1
  replace Hx:=Lib.hid (Hx.out.keep b9)
  replace V:=V.keep b9
  have ⟨v_0,v_1,v_2,v_3,_,_,_,_,_⟩:=V.boxQ
  replace U:=U.keep b9
  have ⟨u_0,u_1,u_2,u_3,_,_,_,_,_⟩:=U.boxQ
  replace o4:=o4.below b9
  go_wp2_with fail
  go_ret
  exact ⟨rfl,B⟩
 ·obtain ⟨A,cap,rfl,-,-⟩:=hx
  have HS:=fun w (h:bJ w (.slice A xs.length cap) xs)=>ek (.slice A xs.length cap) xs w h
  simp only [if_neg hn] at HS
  have HS:=Lib.hid HS
  have B:=(Below.refl w.heap.size w).alloc (Nat.le_refl _) (.cells #[.int .i64 a,.int .i64 b] 23)
  replace Hx:=Lib.hid (Hx.out.keep B)
  generalize hw3:w.alloc (.cells #[.int .i64 a,.int .i64 b] 23)=wc at *
  generalize xs.length=L at *
  go_enter Tryz.func6,Tryz.ntmps6
  go_wp2_with fail
  refine (HS.out _ Hx.out).mono ?_;rintro e w0 ⟨rfl,rfl⟩
  go_wp2
  go_ret
  exact ⟨rfl,B⟩
end
end Go.Proofs.YthfjndmdalfloaaGreat
