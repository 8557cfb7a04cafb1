/-
  Small general lemmas: how a law's arguments are opened, and what its row asks behind the walk.
-/
import Derived.Test.YtgkjmjlkhnfbiaaGreatRows
import Derived.Test.YtgkjmjlkhnfbiaaGreatB1
import Derived.WalkKit
import Derived.ProofKit
import Derived.OpenShut
import Derived.Lib.SmallJoins
import Derived.Below
import Derived.Carry
namespace Go.Proofs.YtgkjmjlkhnfbiaaGreat
set_option linter.unusedSimpArgs false
set_option linter.unusedVariables false
open Go.ChangeShapes Go.WideShapes Go.ChangeAt Go.RowKit Go.Joins Go.Deep

theorem own : ownKnob Tryz.prog.godebug = none := by kernel_rfl
theorem laidOut : laidOutB Tryz.prog = true := by kernel_rfl

theorem M.i64_of_wf {a : Int} (h : (Lit.int .i64 a).wf = true) : M.I64 a := by
  have := bounds_i64 h
  exact this

section
variable {H : Type} {enc : TypeId × Value → H} {P : Program} {w : World} {base : Nat} {spare : Nat → Bool} {held : Bool}

theorem open_i {r : Reach} {b0 : Nat} {t : TypeId} {v : Value} {d : DataW H} {ps : List MemPlace} (ht : P.underlying t = some (.int .i64)) (hval : Value.okWide P w r b0 t v) (hd : DataW.Trod enc P w base spare held t v d ps) :
    ∃ n, v = .int .i64 n ∧ M.I64 n := by
  obtain ⟨n, h1, _, _, h4⟩ := open_int ht hval hd
  exact ⟨n, h1, M.i64_of_wf h4⟩

theorem open_2i {r : Reach} {b0 : Nat} {t ti : TypeId} {f0 f1 : Field} {v : Value} {d : DataW H} {p : List MemPlace} (hs : P.underlying t = some (.struct #[f0, f1])) (h0 : f0.type = ti) (h1 : f1.type = ti) (hi : P.underlying ti = some (.int .i64)) (hone : oneCellFields P #[f0, f1] = true) (hC : P.cellsOf t = 2)
    (hv : Value.okWide P w r b0 t v) (h : DataW.Trod enc P w base spare held t v d p) :
    ∃ a b, v = .agg #[.int .i64 a, .int .i64 b] ∧ M.I64 a ∧ M.I64 b := by
  obtain ⟨v0, v1, y0, y1, n, rfl, -, -, g0, g1⟩ := open_agg2 hs hone hC hv h
  rw [h0] at g0
  rw [h1] at g1
  obtain ⟨a, ea, -, wa⟩ := DataW.trod_int hi g0
  obtain ⟨b, eb, -, wb⟩ := DataW.trod_int hi g1
  simp only [List.cons.injEq, and_true] at ea eb
  subst ea eb
  exact ⟨a, b, rfl, M.i64_of_wf wa, M.i64_of_wf wb⟩

/-- the arguments read behind the call as they did -/
theorem trodAll_stays (hl : laidOutB P = true) : ∀ (ts : List TypeId) (hts : ∀ t ∈ ts, P.readableRec t = true ∧ t < P.types.size) {W W' : World} {vs : List Value} {ds : List (DataW H)} {ps : List MemPlace}
    (_ : DataW.TrodAll enc P W 0 (fun _ => true) true ts vs ds ps) (_ : Below W.heap.size W W') (_ : ∀ x ∈ ps, x.block < W.heap.size), DataW.TrodAll enc P W' 0 (fun b => decide (b < W.heap.size)) true ts vs ds ps
  | [], _, _, _, _, _, _, h, _, _ => by
    obtain ⟨rfl, rfl, rfl⟩ := trodAll_nil h
    exact trodAll_mk0
  | t :: ts, hts, _, _, _, _, _, h, hb, hlt => by
    obtain ⟨v, vs', d, ds', p, q, rfl, rfl, rfl, h1, h2⟩ := trodAll_cons h
    refine ⟨p, q, Below.trod hl (hts t List.mem_cons_self).1 (hts t List.mem_cons_self).2 h1 hb fun x hx => hlt x (List.mem_append_left _ hx), ?_, rfl⟩
    exact trodAll_stays hl ts (fun t' ht' => hts t' (List.mem_cons_of_mem _ ht')) h2 hb fun x hx => hlt x (List.mem_append_right _ hx)

/-- what a law's row asks behind a walk that answers true and leaves old memory alone -/
theorem law_post {f : Func} {s : ChangeSpec} {W W' : World} {args : Array Value} {ds : List (DataW H)} {before : List MemPlace} {tb : TypeId}
    (hl : laidOutB P = true) (hts : ∀ t ∈ f.params.toList, P.readableRec t = true ∧ t < P.types.size)
    (hvars : s.vars = []) (hf : s.fn H ds = { results := [.lit (.bool true)], args := ds }) (hrt : f.resultTypes = #[tb]) (hbool : P.underlying tb = some .bool)
    (hW : DataW.Whole enc P f.params.toList s.vars false W args.toList ds [] before) (hb : Below W.heap.size W W') :
    s.post enc P f false true false false W args (.bool true) W' := by
  have hlt : ∀ p ∈ before, p.block < W.heap.size := fun p hp => hW.lt p hp
  obtain ⟨p, q, hA, hV, hpq, hz, hn⟩ := id hW
  rw [hvars] at hV
  obtain ⟨_, rfl⟩ := trodVars_none hV
  have hbp : before = p := by simpa using hpq
  subst hbp
  have e1 : s.fn H (ds ++ []) = { results := [.lit (.bool true)], args := ds } := by rw [List.append_nil]; exact hf
  refine ⟨ds, [], before, [], before, [], hW, ?_, ?_, ?_, World.keptBut_mono (fun x hx => ⟨hx, Or.inr (Or.inl hx)⟩) (hb.frame (· ∈ before)), fun h => by cases h⟩
  · rw [e1, hrt]
    exact trodAll_mk1 (shut_bool hbool true)
  · rw [e1]
    exact trodAll_stays hl _ hts hA hb hlt
  · rw [e1, hvars]
    exact rfl
end
end Go.Proofs.YtgkjmjlkhnfbiaaGreat
