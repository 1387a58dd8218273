/- The program's od.find: the closures; the search. -/
import Derived.Test.YtmllpkpdfhniaaaGreatJAOdF
import Derived.Deep.LoopGhost
set_option linter.unusedVariables false
set_option linter.unusedSimpArgs false
namespace Go.Proofs.YtmllpkpdfhniaaaGreat
open Go.RowKit Go.Sort

set_option maxHeartbeats 2000000 in
/-- The closure by which find searches. -/
theorem findcmp_any (b1 : Nat) (e1 : E) (v1 : V) (px py : Int) (w : World) (h1 : ItemAt w b1 e1 v1) :
    Calls Tryz.prog 156 #[.pointer (some ⟨b1, 0, none⟩), .agg #[.int .u16 px, .int .u8 py]] w fun r w' => r = .returned (.int .i64 (ordP e1.ix e1.sub px py)) ∧ Gr w w' := by
  have mx := mixed
  have HA1 := at_any e1
  have HO := order_place e1.ix e1.sub px py
  have hb1 := h1.lt
  have k1 := fun j => h1.cell j
  clear h1
  obtain ⟨ixx, subx, accx, mpx, limx, ⟨t1x, n1x, b1x⟩, ⟨t2x, n2x, b2x⟩, ⟨t3x, n3x, b3x⟩⟩ := e1
  obtain ⟨W, hW⟩ : ∃ W, W = w.alloc (.cells #[.int .u16 px, .int .u8 py] 216) := ⟨_, rfl⟩
  have hbW : b1 < W.heap.size := by rw [hW]; simp; omega
  have g1_0 : ∀ n os, (grow (W.drewN n) os).cell? ⟨b1, 0, none⟩ = some (.int .u16 ixx) := cell_grown hbW (by rw [hW]; exact ((Fr.refl w).alloc _).cell (k1 0))
  have g1_1 : ∀ n os, (grow (W.drewN n) os).cell? ⟨b1, 1, none⟩ = some (.int .u8 subx) := cell_grown hbW (by rw [hW]; exact ((Fr.refl w).alloc _).cell (k1 1))
  have g1_2 : ∀ n os, (grow (W.drewN n) os).cell? ⟨b1, 2, none⟩ = some (.int .i64 accx) := cell_grown hbW (by rw [hW]; exact ((Fr.refl w).alloc _).cell (k1 2))
  have g1_3 : ∀ n os, (grow (W.drewN n) os).cell? ⟨b1, 3, none⟩ = some (.bool mpx) := cell_grown hbW (by rw [hW]; exact ((Fr.refl w).alloc _).cell (k1 3))
  have g1_4 : ∀ n os, (grow (W.drewN n) os).cell? ⟨b1, 4, none⟩ = some (.bool limx) := cell_grown hbW (by rw [hW]; exact ((Fr.refl w).alloc _).cell (k1 4))
  have g1_5 : ∀ n os, (grow (W.drewN n) os).cell? ⟨b1, 5, none⟩ = some (.int .i64 t1x) := cell_grown hbW (by rw [hW]; exact ((Fr.refl w).alloc _).cell (k1 5))
  have g1_6 : ∀ n os, (grow (W.drewN n) os).cell? ⟨b1, 6, none⟩ = some (.int .u64 n1x) := cell_grown hbW (by rw [hW]; exact ((Fr.refl w).alloc _).cell (k1 6))
  have g1_7 : ∀ n os, (grow (W.drewN n) os).cell? ⟨b1, 7, none⟩ = some (.string b1x) := cell_grown hbW (by rw [hW]; exact ((Fr.refl w).alloc _).cell (k1 7))
  have g1_8 : ∀ n os, (grow (W.drewN n) os).cell? ⟨b1, 8, none⟩ = some (.int .i64 t2x) := cell_grown hbW (by rw [hW]; exact ((Fr.refl w).alloc _).cell (k1 8))
  have g1_9 : ∀ n os, (grow (W.drewN n) os).cell? ⟨b1, 9, none⟩ = some (.int .u64 n2x) := cell_grown hbW (by rw [hW]; exact ((Fr.refl w).alloc _).cell (k1 9))
  have g1_10 : ∀ n os, (grow (W.drewN n) os).cell? ⟨b1, 10, none⟩ = some (.string b2x) := cell_grown hbW (by rw [hW]; exact ((Fr.refl w).alloc _).cell (k1 10))
  have g1_11 : ∀ n os, (grow (W.drewN n) os).cell? ⟨b1, 11, none⟩ = some (.int .i64 t3x) := cell_grown hbW (by rw [hW]; exact ((Fr.refl w).alloc _).cell (k1 11))
  have g1_12 : ∀ n os, (grow (W.drewN n) os).cell? ⟨b1, 12, none⟩ = some (.int .u64 n3x) := cell_grown hbW (by rw [hW]; exact ((Fr.refl w).alloc _).cell (k1 12))
  have g1_13 : ∀ n os, (grow (W.drewN n) os).cell? ⟨b1, 13, none⟩ = some (.string b3x) := cell_grown hbW (by rw [hW]; exact ((Fr.refl w).alloc _).cell (k1 13))
  have g2_0 : ∀ n os, (grow (W.drewN n) os).cell? ⟨w.heap.size, 0, none⟩ = some (.int .u16 px) := cell_grown (by rw [hW]; simp) (by rw [hW]; simp [World.cell?_alloc_at])
  have g2_1 : ∀ n os, (grow (W.drewN n) os).cell? ⟨w.heap.size, 1, none⟩ = some (.int .u8 py) := cell_grown (by rw [hW]; simp) (by rw [hW]; simp [World.cell?_alloc_at])
  have hGW : Gr w W := by rw [hW]; exact (Gr.refl w).alloc _
  clear k1
  unfold E.agg at HA1
  dsimp only at HA1 HO ⊢
  generalize ordP ixx subx px py = r at *
  go_enter Tryz.func156, Tryz.ntmps156
  go_wp2_with fail
  rw [← hW]
  clear hW
  refine wp_region_quiet_grown (by assumption) (by kernel_rfl) ?_
  iterate 4 (quiet_step (fail))
  quiet_step (refine Calls.grown_of (HA1 _))
  quiet_step (fail)
  quiet_step (refine Calls.grown_of (HO _))
  quiet_step (fail)
  refine wpQuiet_nil ?_
  intro _ hw'
  obtain ⟨⟨nq, osq⟩, hw''⟩ := hw'
  subst hw''
  go_wp2
  go_ret
  exact ⟨rfl, Gr.trans hGW ⟨_, _, rfl⟩⟩

/-- The closure by which find asks whether there is an entry of that index at all. -/
theorem findhas_any (b1 c : Nat) (e1 : E) (v1 : V) (px : Int) (w : World) (h1 : ItemAt w b1 e1 v1) (hc : w.cell? ⟨c, 0, none⟩ = some (.int .u16 px)) :
    Calls Tryz.prog 158 #[.pointer (some ⟨b1, 0, none⟩), .pointer (some ⟨c, 0, none⟩)] w fun r w' => r = .returned (.bool (e1.ix == px)) ∧ Fr w w' := by
  have k1 : w.cell? ⟨b1, 0, none⟩ = some (.int .u16 e1.ix) := h1.cell 0
  clear h1
  generalize e1.ix = x at *
  go_enter Tryz.func158, Tryz.ntmps158
  go_wp2_with fail
  go_quiet (fail)
  go_wp2
  go_ret
  exact ⟨rfl, by (repeat (with_reducible first | exact Fr.refl _ | assumption | refine Fr.alloc ?_ _ | refine Fr.drew ?_ | refine Fr.drewN ?_ _ | refine Fr.set ?_ (by first | (simp; done) | (simp; omega)) _ | refine Fr.trans ?_ (by assumption)))⟩

end Go.Proofs.YtmllpkpdfhniaaaGreat
