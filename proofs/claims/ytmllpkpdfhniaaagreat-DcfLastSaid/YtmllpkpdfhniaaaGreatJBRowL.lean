/- The statement of DcfLast. -/
import Derived.Test.YtmllpkpdfhniaaaGreatJBOpn
import Derived.Test.YtmllpkpdfhniaaaGreatJBClo
import Derived.WalkKit
import Derived.ProofKit
import Derived.OpenShut
import Derived.ShutString
import Derived.ChangeOld
import Derived.Below
import Derived.SizedLaws
set_option linter.unusedVariables false
set_option linter.unusedSimpArgs false
namespace Go.Proofs.YtmllpkpdfhniaaaGreat
open Go.ChangeShapes Go.WideShapes Go.ChangeAt Go.RowKit

theorem ownL : ownKnob Tryz.prog.godebug = none := by kernel_rfl
theorem laidOutL : laidOutB Tryz.prog = true := by kernel_rfl

set_option maxRecDepth 100000 in
theorem lastLifted (os : Os) (started : os.Started) (H : Type) (enc : TypeId × Value → H) :
    ReturnsInHanded {} Tryz.checked os 3 .any (Rows.dcfLastSpec.pre6 enc Tryz.prog Tryz.f3 Rows.dcfLastRow.domain false) (Rows.dcfLastSpec.post enc Tryz.prog Tryz.f3 false true false false) := by
  refine returnsInHanded_of_change_sized (C := Tryz.checked) ownL started (by kernel_rfl) Tryz.func3
    (ChangeSpec.witness6 (enc := enc) (C := Tryz.checked) false ⟨#[], #[.slice none 0 0, .slice none 0 0], []⟩ 8 (by kernel_rfl) (by kernel_rfl) (by kernel_rfl) (by kernel_rfl)) ?_
  intro W base args ds gs before hval0 hW hcnd hsz0 _
  have hval : ∀ (j : Nat) t v, Tryz.f3.params[j]? = some t → args[j]? = some v → Value.okWide Tryz.prog W .any base t v := hval0
  have hsz : (DataW.weightsEach Tryz.prog (Tryz.f3.params.toList ++ Rows.dcfLastSpec.plain.varTypes Tryz.prog) (ds ++ gs)).all (· ≤ reachBytes) = true := hsz0
  have hW' := hW
  obtain ⟨p, q, hA0, hV, rfl, hfz, hnd⟩ := hW
  have hA : DataW.TrodAll enc Tryz.prog W 0 (fun _ => true) true Tryz.f3.params.toList args.toList ds p := hA0
  rw [Tryz.params3] at hA hval hsz
  obtain ⟨v0, vs0, d0, ds0, p0, q0, hargs, rfl, rfl, h0, r0⟩ := trodAll_cons hA
  obtain ⟨v1, vs1, d1, ds1, p1, q1, rfl, rfl, rfl, h1, r1⟩ := trodAll_cons r0
  obtain ⟨rfl, rfl, rfl⟩ := trodAll_nil r1
  obtain rfl : args = #[v0, v1] := by cases args; simp_all
  obtain ⟨rfl, rfl⟩ := trodVars_none hV
  obtain ⟨a0, len0, cap0, rfl⟩ := okWide_slice Tryz.underlying22 (hval 0 22 v0 rfl rfl)
  obtain ⟨a1, len1, cap1, rfl⟩ := okWide_slice Tryz.underlying23 (hval 1 23 v1 rfl rfl)
  have k0 := h0
  have k1 := h1
  have lt0 : ∀ x ∈ p0, x.block < W.heap.size := by obtain ⟨m, hm⟩ := k0; exact DataW.trod_lt m _ _ _ hm
  have lt1 : ∀ x ∈ p1, x.block < W.heap.size := by obtain ⟨m, hm⟩ := k1; exact DataW.trod_lt m _ _ _ hm
  obtain ⟨l, hE, hwf, hlw⟩ : ∃ l : List E, RdE W (.slice a0 len0 cap0) l ∧ (∀ e ∈ l, e.wf) ∧ ((∀ k ∈ d0.weights Tryz.prog 22, k ≤ reachBytes) → l.length * 120 ≤ reachBytes) := by
    obtain ⟨fuel, hf⟩ := h0
    exact openEs hf
  obtain ⟨js, hI, hjw⟩ : ∃ js : List Jt, RdI W (.slice a1 len1 cap1) js ∧ ((∀ k ∈ d1.weights Tryz.prog 23, k ≤ reachBytes) → js.length * 32 ≤ reachBytes ∧ ∀ j ∈ js, j.1.b.length ≤ reachBytes) := by
    obtain ⟨fuel, hf⟩ := h1
    exact openIs hf
  have b0 := hlw fun k hk => by
    have := List.all_eq_true.1 hsz k (DataW.weights_mem_each (j := 0) rfl rfl k hk)
    simpa using this
  have b1 := hjw fun k hk => by
    have := List.all_eq_true.1 hsz k (DataW.weights_mem_each (j := 1) rfl rfl k hk)
    simpa using this
  have hr := reachBytes_lt
  clear hA0 hval0 hsz0 hsz
  refine (dcfLast_any l hwf _ js _ W hE (by omega) hI (fun j hj => by have := b1.2 j hj; omega)).mono fun e W' ⟨he, bel⟩ => ?_
  subst he
  exact ⟨_, rfl, _, _, _, [], _, [], hW', trodAll_mk1 (shut_bool Tryz.underlying4 _), (trodAll_cons_mk (Below.trod laidOutL (by kernel_rfl) (of_decide_eq_true (by kernel_rfl)) k0 bel lt0) (trodAll_cons_mk (Below.trod laidOutL (by kernel_rfl) (of_decide_eq_true (by kernel_rfl)) k1 bel lt1) trodAll_mk0)), rfl, bel.frame _, fun h => by cases h⟩

theorem lastOver : Rows.dcfLastRow.holds Tryz.pinned (OpenSpec.ofChange Rows.dcfLastSpec) :=
  OpenClaim.holds_of_wide 3 Tryz.f3 rfl rfl rfl rfl rfl rfl rfl ⟨rfl, rfl, rfl, rfl, rfl⟩ rfl rfl rfl rfl rfl lastNamed Tryz.func3 lastClosed lastInst lastWrap
    (fun os started H enc _ => lastLifted os started H enc)

/-- The statement. -/
theorem dcfLast_holds : Rows.DcfLastSaid := lastOver
#print axioms dcfLast_holds
end Go.Proofs.YtmllpkpdfhniaaaGreat
