/- The program's od.at, place.order, within, limits, entry: what each call answers, in whatever world. -/
import Derived.Test.YtmllpkpdfhniaaaGreatJATyE
set_option linter.unusedVariables false
set_option linter.unusedSimpArgs false
namespace Go.Proofs.YtmllpkpdfhniaaaGreat
open Go.RowKit

theorem at_any (e : E) (w : World) : Calls Tryz.prog 140 #[e.agg] w fun r w' => r = .returned (.agg #[.int .u16 e.ix, .int .u8 e.sub]) ∧ Gr w w' := by
  obtain ⟨ix, sub, acc, mp, lim, ⟨t1, n1, b1⟩, ⟨t2, n2, b2⟩, ⟨t3, n3, b3⟩⟩ := e
  unfold E.agg
  dsimp only
  go_enter Tryz.func140, Tryz.ntmps140
  go_wp2
  exact bodyPost_ret (v := .agg #[.int .u16 ix, .int .u8 sub]) (by simp [*, results, Tryz.results140, go_sem]) rfl (⟨rfl, by (repeat (with_reducible first | exact Gr.refl _ | assumption | refine Gr.alloc ?_ _ | refine Gr.drew ?_ | refine Gr.drewN ?_ _ | refine Gr.trans ?_ (by assumption)))⟩)

def orI (x y : Int) : Int := if x = 0 then y else x
/-- cmp.Or of two: the first that is not 0. -/
theorem or_any (b : Nat) (x y : Int) (w : World) (h0 : w.cell? ⟨b, 0, none⟩ = some (.int .i64 x)) (h1 : w.cell? ⟨b, 1, none⟩ = some (.int .i64 y)) :
    Calls Tryz.prog 188 #[.slice (some ⟨b, 0, none⟩) 2 2] w fun r w' => r = .returned (.int .i64 (orI x y)) ∧ w = w' := by
  unfold orI
  by_cases hx : x = 0
  · subst hx
    by_cases hy : y = 0
    · subst hy
      go_enter Tryz.func188, Tryz.ntmps188
      go_wp2
      refine wp_loop_rounds 3 ?_
      iterate 3 (rw [rounds_succ]; go_wp2)
      go_ret
      exact ⟨rfl, rfl⟩
    · have hy' := bne_true hy
      clear hy
      go_enter Tryz.func188, Tryz.ntmps188
      go_wp2
      refine wp_loop_rounds 2 ?_
      iterate 2 (rw [rounds_succ]; go_wp2)
      go_ret
      exact ⟨rfl, rfl⟩
  · rw [if_neg hx]
    have hx' := bne_true hx
    clear hx
    go_enter Tryz.func188, Tryz.ntmps188
    go_wp2
    refine wp_loop_rounds 1 ?_
    rw [rounds_succ]
    go_wp2
    go_ret
    exact ⟨rfl, rfl⟩

def ordP (x1 y1 x2 y2 : Int) : Int := orI (cmpI x1 x2) (cmpI y1 y2)

set_option maxHeartbeats 1000000 in
theorem order_place (x1 y1 x2 y2 : Int) (w : World) : Calls Tryz.prog 141 #[.agg #[.int .u16 x1, .int .u8 y1], .agg #[.int .u16 x2, .int .u8 y2]] w fun r w' => r = .returned (.int .i64 (ordP x1 y1 x2 y2)) ∧ Gr w w' := by
  unfold ordP
  have H1 := cmp_u16 x1 x2
  have H2 := cmp_u8 y1 y2
  generalize cmpI x1 x2 = r1 at *
  generalize cmpI y1 y2 = r2 at *
  have h3 : ∀ (a b : Obj) (C : Array Value) (t : TypeId) (i : Nat), (((w.alloc a).alloc b).alloc (.cells C t)).cell? ⟨w.heap.size + 1 + 1, i, none⟩ = C[i]? := fun a b C t i => World.cell?_alloc_at C t _ i (by simp)
  go_enter Tryz.func141, Tryz.ntmps141
  go_wp2_with fail
  go_region_held3 (fun w' => w'.cell? ⟨w.heap.size, 0, none⟩ = some (.int .u16 x1) ∧ w'.cell? ⟨w.heap.size + 1, 0, none⟩ = some (.int .u16 x2) ∧ w'.cell? ⟨w.heap.size, 1, none⟩ = some (.int .u8 y1) ∧ w'.cell? ⟨w.heap.size + 1, 1, none⟩ = some (.int .u8 y2))
    (go_keep)
    (first | (go_at_call 189; refine (H1 _).mono ?_; rintro e w1 ⟨rfl, rfl⟩) | (go_at_call 190; refine (H2 _).mono ?_; rintro e w1 ⟨rfl, rfl⟩) | (go_at_call 188; refine Calls.mono (or_any (w.heap.size + 1 + 1) r1 r2 _ (by simp [h3]) (by simp [h3])) ?_; rintro e w1 ⟨rfl, rfl⟩))
  all_goals
    go_wp2
    go_ret
    exact ⟨rfl, by (repeat (with_reducible first | exact Gr.refl _ | assumption | refine Gr.alloc ?_ _ | refine Gr.drew ?_ | refine Gr.drewN ?_ _ | refine Gr.trans ?_ (by assumption)))⟩

end Go.Proofs.YtmllpkpdfhniaaaGreat
