/- The program's dictionaries: how they lie; the comparing closures. -/
import Derived.Test.YtmllpkpdfhniaaaGreatJAOdC
import Derived.Test.YtmllpkpdfhniaaaGreatJAShelfS
set_option linter.unusedVariables false
set_option linter.unusedSimpArgs false
namespace Go.Proofs.YtmllpkpdfhniaaaGreat
open Go.RowKit Go.Sort

/-- An item of the program's dictionary lies at block b. -/
def itemCells (e : E) (v : V) : List Value := e.cells ++ v.cells
def ItemAt (w : World) (b : Nat) (e : E) (v : V) : Prop := w.heap[b]? = some (.cells (itemCells e v).toArray 165 (0, 0))
theorem ItemAt.lt {w : World} {b : Nat} {e : E} {v : V} (h : ItemAt w b e v) : b < w.heap.size := (Array.getElem?_eq_some_iff.1 h).1
theorem ItemAt.cell {w : World} {b : Nat} {e : E} {v : V} (h : ItemAt w b e v) (j : Nat) : w.cell? ⟨b, j, none⟩ = (itemCells e v)[j]? := by
  unfold ItemAt at h
  simp [World.cell?, h]
theorem ItemAt.froz {w : World} {b : Nat} {e : E} {v : V} (h : ItemAt w b e v) (j : Nat) : w.frozen? ⟨b, j, none⟩ = false := by
  unfold ItemAt at h
  simp [World.frozen?, h]
theorem ItemAt.fr {w w' : World} {b : Nat} {e : E} {v : V} (h : ItemAt w b e v) (hf : Fr w w') : ItemAt w' b e v := hf.at_ h

set_option maxHeartbeats 2000000 in
/-- The closure by which od.New sorts. -/
theorem newcmp_any (b1 b2 : Nat) (e1 e2 : E) (v1 v2 : V) (w : World) (h1 : ItemAt w b1 e1 v1) (h2 : ItemAt w b2 e2 v2) :
    Calls Tryz.prog 139 #[.pointer (some ⟨b1, 0, none⟩), .pointer (some ⟨b2, 0, none⟩)] w fun r w' => r = .returned (.int .i64 (ordP e1.ix e1.sub e2.ix e2.sub)) ∧ Gr w w' := by
  have mx := mixed
  have HA1 := at_any e1
  have HA2 := at_any e2
  have HO := order_place e1.ix e1.sub e2.ix e2.sub
  have hb1 := h1.lt
  have hb2 := h2.lt
  have k1 := fun j => h1.cell j
  have k2 := fun j => h2.cell j
  clear h1 h2
  obtain ⟨ixx, subx, accx, mpx, limx, ⟨t1x, n1x, b1x⟩, ⟨t2x, n2x, b2x⟩, ⟨t3x, n3x, b3x⟩⟩ := e1
  obtain ⟨ixy, suby, accy, mpy, limy, ⟨t1y, n1y, b1y⟩, ⟨t2y, n2y, b2y⟩, ⟨t3y, n3y, b3y⟩⟩ := e2
  have g1_0 : ∀ n os, (grow (w.drewN n) os).cell? ⟨b1, 0, none⟩ = some (.int .u16 ixx) := cell_grown hb1 (k1 0)
  have g1_1 : ∀ n os, (grow (w.drewN n) os).cell? ⟨b1, 1, none⟩ = some (.int .u8 subx) := cell_grown hb1 (k1 1)
  have g1_2 : ∀ n os, (grow (w.drewN n) os).cell? ⟨b1, 2, none⟩ = some (.int .i64 accx) := cell_grown hb1 (k1 2)
  have g1_3 : ∀ n os, (grow (w.drewN n) os).cell? ⟨b1, 3, none⟩ = some (.bool mpx) := cell_grown hb1 (k1 3)
  have g1_4 : ∀ n os, (grow (w.drewN n) os).cell? ⟨b1, 4, none⟩ = some (.bool limx) := cell_grown hb1 (k1 4)
  have g1_5 : ∀ n os, (grow (w.drewN n) os).cell? ⟨b1, 5, none⟩ = some (.int .i64 t1x) := cell_grown hb1 (k1 5)
  have g1_6 : ∀ n os, (grow (w.drewN n) os).cell? ⟨b1, 6, none⟩ = some (.int .u64 n1x) := cell_grown hb1 (k1 6)
  have g1_7 : ∀ n os, (grow (w.drewN n) os).cell? ⟨b1, 7, none⟩ = some (.string b1x) := cell_grown hb1 (k1 7)
  have g1_8 : ∀ n os, (grow (w.drewN n) os).cell? ⟨b1, 8, none⟩ = some (.int .i64 t2x) := cell_grown hb1 (k1 8)
  have g1_9 : ∀ n os, (grow (w.drewN n) os).cell? ⟨b1, 9, none⟩ = some (.int .u64 n2x) := cell_grown hb1 (k1 9)
  have g1_10 : ∀ n os, (grow (w.drewN n) os).cell? ⟨b1, 10, none⟩ = some (.string b2x) := cell_grown hb1 (k1 10)
  have g1_11 : ∀ n os, (grow (w.drewN n) os).cell? ⟨b1, 11, none⟩ = some (.int .i64 t3x) := cell_grown hb1 (k1 11)
  have g1_12 : ∀ n os, (grow (w.drewN n) os).cell? ⟨b1, 12, none⟩ = some (.int .u64 n3x) := cell_grown hb1 (k1 12)
  have g1_13 : ∀ n os, (grow (w.drewN n) os).cell? ⟨b1, 13, none⟩ = some (.string b3x) := cell_grown hb1 (k1 13)
  have g2_0 : ∀ n os, (grow (w.drewN n) os).cell? ⟨b2, 0, none⟩ = some (.int .u16 ixy) := cell_grown hb2 (k2 0)
  have g2_1 : ∀ n os, (grow (w.drewN n) os).cell? ⟨b2, 1, none⟩ = some (.int .u8 suby) := cell_grown hb2 (k2 1)
  have g2_2 : ∀ n os, (grow (w.drewN n) os).cell? ⟨b2, 2, none⟩ = some (.int .i64 accy) := cell_grown hb2 (k2 2)
  have g2_3 : ∀ n os, (grow (w.drewN n) os).cell? ⟨b2, 3, none⟩ = some (.bool mpy) := cell_grown hb2 (k2 3)
  have g2_4 : ∀ n os, (grow (w.drewN n) os).cell? ⟨b2, 4, none⟩ = some (.bool limy) := cell_grown hb2 (k2 4)
  have g2_5 : ∀ n os, (grow (w.drewN n) os).cell? ⟨b2, 5, none⟩ = some (.int .i64 t1y) := cell_grown hb2 (k2 5)
  have g2_6 : ∀ n os, (grow (w.drewN n) os).cell? ⟨b2, 6, none⟩ = some (.int .u64 n1y) := cell_grown hb2 (k2 6)
  have g2_7 : ∀ n os, (grow (w.drewN n) os).cell? ⟨b2, 7, none⟩ = some (.string b1y) := cell_grown hb2 (k2 7)
  have g2_8 : ∀ n os, (grow (w.drewN n) os).cell? ⟨b2, 8, none⟩ = some (.int .i64 t2y) := cell_grown hb2 (k2 8)
  have g2_9 : ∀ n os, (grow (w.drewN n) os).cell? ⟨b2, 9, none⟩ = some (.int .u64 n2y) := cell_grown hb2 (k2 9)
  have g2_10 : ∀ n os, (grow (w.drewN n) os).cell? ⟨b2, 10, none⟩ = some (.string b2y) := cell_grown hb2 (k2 10)
  have g2_11 : ∀ n os, (grow (w.drewN n) os).cell? ⟨b2, 11, none⟩ = some (.int .i64 t3y) := cell_grown hb2 (k2 11)
  have g2_12 : ∀ n os, (grow (w.drewN n) os).cell? ⟨b2, 12, none⟩ = some (.int .u64 n3y) := cell_grown hb2 (k2 12)
  have g2_13 : ∀ n os, (grow (w.drewN n) os).cell? ⟨b2, 13, none⟩ = some (.string b3y) := cell_grown hb2 (k2 13)
  clear k1 k2
  unfold E.agg at HA1 HA2
  dsimp only at HA1 HA2 HO ⊢
  generalize ordP ixx subx ixy suby = r at *
  go_enter Tryz.func139, Tryz.ntmps139
  go_wp2_with fail
  refine wp_region_quiet_grown (by assumption) (by kernel_rfl) ?_
  iterate 4 (quiet_step (fail))
  quiet_step (refine Calls.grown_of (HA1 _))
  iterate 4 (quiet_step (fail))
  quiet_step (refine Calls.grown_of (HA2 _))
  quiet_step (refine Calls.grown_of (HO _))
  quiet_step (fail)
  refine wpQuiet_nil ?_
  intro _ hw'
  obtain ⟨⟨nq, osq⟩, hw''⟩ := hw'
  subst hw''
  go_wp2
  go_ret
  exact ⟨rfl, _, _, rfl⟩

end Go.Proofs.YtmllpkpdfhniaaaGreat
