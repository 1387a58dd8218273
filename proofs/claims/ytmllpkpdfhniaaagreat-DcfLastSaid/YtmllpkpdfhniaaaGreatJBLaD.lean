/- slices.Clone at bytes; dcf.Last. -/
import Derived.Test.YtmllpkpdfhniaaaGreatJBLsB
import Derived.Test.YtmllpkpdfhniaaaGreatJABy
import Derived.Test.YtmllpkpdfhniaaaGreatJAOwn
set_option linter.unusedVariables false
set_option linter.unusedSimpArgs false
namespace Go.Proofs.YtmllpkpdfhniaaaGreat
open Go.RowKit Go.Sort

theorem clone_some (a : Addr) (c : Nat) (l : List UInt8) (w : World) (hR : RdB w (.slice (some a) l.length c) l) (hl : l.length ≤ 140737488355328) :
    Calls Tryz.prog 98 #[.slice (some a) l.length c] w fun e w' => ∃ v, e = .returned v ∧ OB w' w.heap.size v l ∧ Fr w w' := by
  have HR := Lib.hid hR
  clear hR
  obtain ⟨i0, hi0, hiz0, hiz1, hiz2⟩ := info_parts infoByte
  have he := Lib.run_eql_slice_nil (P := Tryz.prog)
  go_enter Tryz.func98, Tryz.ntmps98
  go_wp2_with (at_builtin; refine wpList_append_rd _ (by rfl) (.tmp 5) (.tmp 6) _ (by rfl) w.heap.size 5 i0 (.int .u8 0) 1 1 Tryz.underlying36 hi0 hiz0 hiz1 hiz2 rfl (by omega) (.slice (some ⟨w.heap.size, 0, none⟩) 0 0) 0 (bcs []) (by rfl) (made_bytes (Nat.le_refl _)) _ l.length (bcs l) (by rfl) (Rd.fr HR.out (by (repeat (with_reducible first | exact Fr.refl _ | assumption | refine Fr.alloc ?_ _ | refine Fr.drew ?_ | refine Fr.drewN ?_ _ | refine Fr.set ?_ (by first | (simp; done) | (simp; omega)) _ | refine Fr.trans ?_ (by assumption))))) (bcs_one _) (by simp only [maxLen]; omega) (by omega) (by simp) ?_; intro v6 w6 hown6 hgrow6)
  go_ret
  refine ⟨v6, rfl, by simpa [OB, bcs] using hown6, Fr.grown (by (repeat (with_reducible first | exact Fr.refl _ | assumption | refine Fr.alloc ?_ _ | refine Fr.drew ?_ | refine Fr.drewN ?_ _ | refine Fr.set ?_ (by first | (simp; done) | (simp; omega)) _ | refine Fr.trans ?_ (by assumption)))) hgrow6 (fun r hr => by simp [Value.ownBlock] at hr; omega)⟩
theorem clone_nil (c : Nat) (w : World) : Calls Tryz.prog 98 #[.slice none 0 c] w fun e w' => ∃ v, e = .returned v ∧ OB w' w.heap.size v [] ∧ Fr w w' := by
  have he := Lib.run_eql_slice_nil (P := Tryz.prog)
  go_enter Tryz.func98, Tryz.ntmps98
  go_wp2
  go_ret
  exact ⟨_, rfl, OB.nil _ _, Fr.refl _⟩
/-- slices.Clone at bytes. -/
theorem clone_any (v : Value) (l : List UInt8) (w : World) (hR : RdB w v l) (hl : l.length ≤ 140737488355328) : Calls Tryz.prog 98 #[v] w fun e w' => ∃ v, e = .returned v ∧ OB w' w.heap.size v l ∧ Fr w w' := by
  have hR' := hR
  obtain ⟨_, A, c, rfl, _, _, hx⟩ := hR'
  cases A with
  | some a => exact clone_some a c l w hR hl
  | none =>
    have h0 : l = [] := by
      rcases hx with h0 | ⟨b, o, hA, _⟩
      · exact List.eq_nil_of_length_eq_zero h0
      · cases hA
    subst h0
    exact clone_nil c w

end Go.Proofs.YtmllpkpdfhniaaaGreat
