/-
  The law FnCertificateHolds: for every input it answers true; each argument reads behind the call as it did. No condition.
-/
import Derived.Test.YtkalaljcbmkbmaaGreatB17
import Derived.Test.YtkalaljcbmkbmaaGreatB16
namespace Go.Proofs.YtkalaljcbmkbmaaGreat.fnCertificateHolds
set_option linter.unusedSimpArgs false
set_option linter.unusedVariables false
open Go.ChangeShapes Go.WideShapes Go.ChangeAt Go.RowKit Go.Joins Go.Deep
theorem cellsimpl_Certificate:Tryz.prog.cellsOf 51=5:=by kernel_rfl
theorem cellsimpl_Fraction:Tryz.prog.cellsOf 49=2:=by kernel_rfl
theorem cellsPts:Tryz.prog.cellsOf 26=1:=by kernel_rfl
theorem cellsimpl_Point:Tryz.prog.cellsOf 40=3:=by kernel_rfl
theorem cellsimpl_Curve:Tryz.prog.cellsOf 25=2:=by kernel_rfl
theorem cellsInt:Tryz.prog.cellsOf 3=1:=by kernel_rfl
set_option maxRecDepth 100000 in
theorem lifted (os:Os) (started:os.Started) (H:Type) (enc:TypeId × Value→H) :
  ReturnsInHanded {} Tryz.checked os 4 .any (Rows.fnCertificateHoldsSpec.pre6 enc Tryz.prog Tryz.f4 Rows.fnCertificateHoldsRow.domain false) (Rows.fnCertificateHoldsSpec.post enc Tryz.prog Tryz.f4 false true false false):=by
 refine returnsInHanded_of_change (C:=Tryz.checked) own started (by kernel_rfl) Tryz.func4
  (ChangeSpec.witness6 (enc:=enc) (C:=Tryz.checked) false ⟨#[],#[.agg #[.int .i64 0,.int .i64 0,.slice none 0 0,.int .i64 0,.int .i64 0],.slice none 0 0],[]⟩ 8 (by kernel_rfl) (by kernel_rfl) (by kernel_rfl) (by kernel_rfl)) ?_
 intro W base args ds gs before hval0 hW hcnd _
 have hval:∀ (j:Nat) t v,Tryz.f4.params[j]?=some t→args[j]?=some v→Value.okWide Tryz.prog W .any base t v:=hval0
 have hW0:DataW.Whole enc Tryz.prog Tryz.f4.params.toList Rows.fnCertificateHoldsSpec.vars false W args.toList ds gs before:=hW
 obtain ⟨p,q,hA0,hV,hpq,hfz,hnd⟩:=hW
 have hA:DataW.TrodAll enc Tryz.prog W 0 (fun _=>true) true Tryz.f4.params.toList args.toList ds p:=hA0
 rw [Tryz.params4] at hA hval
 obtain ⟨v0,vs0,d0,ds0,p0,q0,hargs,rfl,rfl,h0,r0⟩:=trodAll_cons hA
 obtain ⟨v1,vs1,d1,ds1,p1,q1,rfl,rfl,rfl,h1,r1⟩:=trodAll_cons r0
 obtain ⟨rfl,rfl,rfl⟩:=trodAll_nil r1
 obtain rfl:args=#[v0,v1]:=by cases args;simp_all
 obtain ⟨rfl,rfl⟩:=trodVars_none hV
 obtain ⟨a0,b0,n0,e0,u0,x0,rfl,i0,k0,j0,l0,hp0⟩:=open_cert Tryz.underlying51 rfl rfl rfl rfl rfl rfl cellsimpl_Certificate Tryz.underlying25 rfl rfl rfl rfl cellsimpl_Curve Tryz.underlying49 rfl rfl rfl rfl cellsimpl_Fraction Tryz.underlying26 cellsPts Tryz.underlying40 rfl rfl rfl cellsimpl_Point rfl rfl rfl Tryz.underlying3 cellsInt (hval 0 51 v0 rfl rfl) h0
 obtain ⟨a1,i1⟩:=open_numbers Tryz.underlying29 Tryz.underlying3 cellsInt (hval 1 29 v1 rfl rfl) h1
 refine (law_CertificateHolds a0 b0 n0 e0 u0 v1 x0 a1 W hp0 i1).mono fun e W' ⟨he,hg⟩=>?_
 subst he
 exact ⟨_,rfl,law_post laidOut (by rw [Tryz.params4];intro t ht;simp only [List.mem_cons,List.not_mem_nil,or_false] at ht;rcases ht with rfl | rfl <;> exact ⟨by kernel_rfl,of_decide_eq_true (by kernel_rfl)⟩) rfl rfl rfl Tryz.underlying4 hW0 hg⟩
theorem proved:Rows.FnCertificateHoldsSaid:=
 OpenClaim.holds_of_wide 4 Tryz.f4 rfl rfl rfl rfl rfl rfl rfl ⟨rfl,rfl,rfl,rfl,rfl⟩ rfl rfl rfl rfl rfl (by kernel_rfl) Tryz.func4 (by kernel_rfl)
  (of_decide_eq_true (by kernel_rfl)) (by unfold Func.isWrapper;first | (rw [if_pos (by decide +kernel)];kernel_rfl) | (rw [if_neg (by decide +kernel)];exact ⟨rfl,rfl⟩))
  (fun os started H enc _=>lifted os started H enc)
#print axioms proved
end Go.Proofs.YtkalaljcbmkbmaaGreat.fnCertificateHolds
