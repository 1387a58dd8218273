/- The program's od.within, limits, entry: what is wrong with an entry. -/
import Derived.Test.YtmllpkpdfhniaaaGreatJAOdA
set_option linter.unusedVariables false
set_option linter.unusedSimpArgs false
namespace Go.Proofs.YtmllpkpdfhniaaaGreat
open Go.RowKit

theorem within_g1 (ix sub acc : Int) (mp lim : Bool) (t1 n1 : Int) (b1 : ByteArray) (t2 n2 : Int) (b2 : ByteArray) (t3 n3 : Int) (b3 : ByteArray) (t0 n0 : Int) (b0 : ByteArray) (l1 e1 l2 e2 : Int) (HA : ∀ w, Calls Tryz.prog 221 #[.agg #[.int .i64 t0, .int .u64 n0, .string b0], .agg #[.int .i64 t1, .int .u64 n1, .string b1]] w fun e w' => RetI l1 e1 w e w') (HB : ∀ w, Calls Tryz.prog 221 #[.agg #[.int .i64 t0, .int .u64 n0, .string b0], .agg #[.int .i64 t2, .int .u64 n2, .string b2]] w fun e w' => RetI l2 e2 w e w') (h1 : (e1 != 0) = true) (w : World) :
    Calls Tryz.prog 194 #[.agg #[.int .u16 ix, .int .u8 sub, .int .i64 acc, .bool mp, .bool lim, .int .i64 t1, .int .u64 n1, .string b1, .int .i64 t2, .int .u64 n2, .string b2, .int .i64 t3, .int .u64 n3, .string b3], .agg #[.int .i64 t0, .int .u64 n0, .string b0]] w fun e w' => e = .returned (.int .u32 cGeneral) ∧ Fr w w' := by
  go_enter Tryz.func194, Tryz.ntmps194
  go_wp2_with fail
  refine (HA _).mono ?_
  rintro e w1 ⟨rfl, hF1⟩
  have hz1 := hF1.size; (try simp at hz1)
  (try (have hz1_0 : w.heap.size < w1.heap.size := (by omega)))
  (try (have hz1_1 : w.heap.size + 1 < w1.heap.size := (by omega)))
  have hc1 := hF1.cells
  have hf1 := hF1.froz
  go_wp2_with fail
  refine (HB _).mono ?_
  rintro e w2 ⟨rfl, hF2⟩
  have hz2 := hF2.size; (try simp at hz2)
  (try (have hz2_0 : w.heap.size < w2.heap.size := (by omega)))
  (try (have hz2_1 : w.heap.size + 1 < w2.heap.size := (by omega)))
  have hc2 := hF2.cells
  have hf2 := hF2.froz
  go_wp2_with fail
  go_ret
  exact ⟨rfl, by (repeat (with_reducible first | exact Fr.refl _ | assumption | refine Fr.alloc ?_ _ | refine Fr.drew ?_ | refine Fr.drewN ?_ _ | refine Fr.set ?_ (by first | (simp; done) | (simp; omega)) _ | refine Fr.trans ?_ (by assumption)))⟩
theorem within_g2 (ix sub acc : Int) (mp lim : Bool) (t1 n1 : Int) (b1 : ByteArray) (t2 n2 : Int) (b2 : ByteArray) (t3 n3 : Int) (b3 : ByteArray) (t0 n0 : Int) (b0 : ByteArray) (l1 e1 l2 e2 : Int) (HA : ∀ w, Calls Tryz.prog 221 #[.agg #[.int .i64 t0, .int .u64 n0, .string b0], .agg #[.int .i64 t1, .int .u64 n1, .string b1]] w fun e w' => RetI l1 e1 w e w') (HB : ∀ w, Calls Tryz.prog 221 #[.agg #[.int .i64 t0, .int .u64 n0, .string b0], .agg #[.int .i64 t2, .int .u64 n2, .string b2]] w fun e w' => RetI l2 e2 w e w') (h1 : (e1 != 0) = false) (h2 : (e2 != 0) = true) (w : World) :
    Calls Tryz.prog 194 #[.agg #[.int .u16 ix, .int .u8 sub, .int .i64 acc, .bool mp, .bool lim, .int .i64 t1, .int .u64 n1, .string b1, .int .i64 t2, .int .u64 n2, .string b2, .int .i64 t3, .int .u64 n3, .string b3], .agg #[.int .i64 t0, .int .u64 n0, .string b0]] w fun e w' => e = .returned (.int .u32 cGeneral) ∧ Fr w w' := by
  go_enter Tryz.func194, Tryz.ntmps194
  go_wp2_with fail
  refine (HA _).mono ?_
  rintro e w1 ⟨rfl, hF1⟩
  have hz1 := hF1.size; (try simp at hz1)
  (try (have hz1_0 : w.heap.size < w1.heap.size := (by omega)))
  (try (have hz1_1 : w.heap.size + 1 < w1.heap.size := (by omega)))
  have hc1 := hF1.cells
  have hf1 := hF1.froz
  go_wp2_with fail
  refine (HB _).mono ?_
  rintro e w2 ⟨rfl, hF2⟩
  have hz2 := hF2.size; (try simp at hz2)
  (try (have hz2_0 : w.heap.size < w2.heap.size := (by omega)))
  (try (have hz2_1 : w.heap.size + 1 < w2.heap.size := (by omega)))
  have hc2 := hF2.cells
  have hf2 := hF2.froz
  go_wp2_with fail
  go_ret
  exact ⟨rfl, by (repeat (with_reducible first | exact Fr.refl _ | assumption | refine Fr.alloc ?_ _ | refine Fr.drew ?_ | refine Fr.drewN ?_ _ | refine Fr.set ?_ (by first | (simp; done) | (simp; omega)) _ | refine Fr.trans ?_ (by assumption)))⟩
theorem within_hi (ix sub acc : Int) (mp lim : Bool) (t1 n1 : Int) (b1 : ByteArray) (t2 n2 : Int) (b2 : ByteArray) (t3 n3 : Int) (b3 : ByteArray) (t0 n0 : Int) (b0 : ByteArray) (l1 e1 l2 e2 : Int) (HA : ∀ w, Calls Tryz.prog 221 #[.agg #[.int .i64 t0, .int .u64 n0, .string b0], .agg #[.int .i64 t1, .int .u64 n1, .string b1]] w fun e w' => RetI l1 e1 w e w') (HB : ∀ w, Calls Tryz.prog 221 #[.agg #[.int .i64 t0, .int .u64 n0, .string b0], .agg #[.int .i64 t2, .int .u64 n2, .string b2]] w fun e w' => RetI l2 e2 w e w') (h1 : (e1 != 0) = false) (h2 : (e2 != 0) = false) (h3 : 0 < l2) (w : World) :
    Calls Tryz.prog 194 #[.agg #[.int .u16 ix, .int .u8 sub, .int .i64 acc, .bool mp, .bool lim, .int .i64 t1, .int .u64 n1, .string b1, .int .i64 t2, .int .u64 n2, .string b2, .int .i64 t3, .int .u64 n3, .string b3], .agg #[.int .i64 t0, .int .u64 n0, .string b0]] w fun e w' => e = .returned (.int .u32 cTooHigh) ∧ Fr w w' := by
  go_enter Tryz.func194, Tryz.ntmps194
  go_wp2_with fail
  refine (HA _).mono ?_
  rintro e w1 ⟨rfl, hF1⟩
  have hz1 := hF1.size; (try simp at hz1)
  (try (have hz1_0 : w.heap.size < w1.heap.size := (by omega)))
  (try (have hz1_1 : w.heap.size + 1 < w1.heap.size := (by omega)))
  have hc1 := hF1.cells
  have hf1 := hF1.froz
  go_wp2_with fail
  refine (HB _).mono ?_
  rintro e w2 ⟨rfl, hF2⟩
  have hz2 := hF2.size; (try simp at hz2)
  (try (have hz2_0 : w.heap.size < w2.heap.size := (by omega)))
  (try (have hz2_1 : w.heap.size + 1 < w2.heap.size := (by omega)))
  have hc2 := hF2.cells
  have hf2 := hF2.froz
  go_wp2_with fail
  go_ret
  exact ⟨rfl, by (repeat (with_reducible first | exact Fr.refl _ | assumption | refine Fr.alloc ?_ _ | refine Fr.drew ?_ | refine Fr.drewN ?_ _ | refine Fr.set ?_ (by first | (simp; done) | (simp; omega)) _ | refine Fr.trans ?_ (by assumption)))⟩
theorem within_lo (ix sub acc : Int) (mp lim : Bool) (t1 n1 : Int) (b1 : ByteArray) (t2 n2 : Int) (b2 : ByteArray) (t3 n3 : Int) (b3 : ByteArray) (t0 n0 : Int) (b0 : ByteArray) (l1 e1 l2 e2 : Int) (HA : ∀ w, Calls Tryz.prog 221 #[.agg #[.int .i64 t0, .int .u64 n0, .string b0], .agg #[.int .i64 t1, .int .u64 n1, .string b1]] w fun e w' => RetI l1 e1 w e w') (HB : ∀ w, Calls Tryz.prog 221 #[.agg #[.int .i64 t0, .int .u64 n0, .string b0], .agg #[.int .i64 t2, .int .u64 n2, .string b2]] w fun e w' => RetI l2 e2 w e w') (h1 : (e1 != 0) = false) (h2 : (e2 != 0) = false) (h3 : ¬ 0 < l2) (h4 : l1 < 0) (w : World) :
    Calls Tryz.prog 194 #[.agg #[.int .u16 ix, .int .u8 sub, .int .i64 acc, .bool mp, .bool lim, .int .i64 t1, .int .u64 n1, .string b1, .int .i64 t2, .int .u64 n2, .string b2, .int .i64 t3, .int .u64 n3, .string b3], .agg #[.int .i64 t0, .int .u64 n0, .string b0]] w fun e w' => e = .returned (.int .u32 cTooLow) ∧ Fr w w' := by
  go_enter Tryz.func194, Tryz.ntmps194
  go_wp2_with fail
  refine (HA _).mono ?_
  rintro e w1 ⟨rfl, hF1⟩
  have hz1 := hF1.size; (try simp at hz1)
  (try (have hz1_0 : w.heap.size < w1.heap.size := (by omega)))
  (try (have hz1_1 : w.heap.size + 1 < w1.heap.size := (by omega)))
  have hc1 := hF1.cells
  have hf1 := hF1.froz
  go_wp2_with fail
  refine (HB _).mono ?_
  rintro e w2 ⟨rfl, hF2⟩
  have hz2 := hF2.size; (try simp at hz2)
  (try (have hz2_0 : w.heap.size < w2.heap.size := (by omega)))
  (try (have hz2_1 : w.heap.size + 1 < w2.heap.size := (by omega)))
  have hc2 := hF2.cells
  have hf2 := hF2.froz
  go_wp2_with fail
  go_ret
  exact ⟨rfl, by (repeat (with_reducible first | exact Fr.refl _ | assumption | refine Fr.alloc ?_ _ | refine Fr.drew ?_ | refine Fr.drewN ?_ _ | refine Fr.set ?_ (by first | (simp; done) | (simp; omega)) _ | refine Fr.trans ?_ (by assumption)))⟩
theorem within_ok (ix sub acc : Int) (mp lim : Bool) (t1 n1 : Int) (b1 : ByteArray) (t2 n2 : Int) (b2 : ByteArray) (t3 n3 : Int) (b3 : ByteArray) (t0 n0 : Int) (b0 : ByteArray) (l1 e1 l2 e2 : Int) (HA : ∀ w, Calls Tryz.prog 221 #[.agg #[.int .i64 t0, .int .u64 n0, .string b0], .agg #[.int .i64 t1, .int .u64 n1, .string b1]] w fun e w' => RetI l1 e1 w e w') (HB : ∀ w, Calls Tryz.prog 221 #[.agg #[.int .i64 t0, .int .u64 n0, .string b0], .agg #[.int .i64 t2, .int .u64 n2, .string b2]] w fun e w' => RetI l2 e2 w e w') (h1 : (e1 != 0) = false) (h2 : (e2 != 0) = false) (h3 : ¬ 0 < l2) (h4 : ¬ l1 < 0) (w : World) :
    Calls Tryz.prog 194 #[.agg #[.int .u16 ix, .int .u8 sub, .int .i64 acc, .bool mp, .bool lim, .int .i64 t1, .int .u64 n1, .string b1, .int .i64 t2, .int .u64 n2, .string b2, .int .i64 t3, .int .u64 n3, .string b3], .agg #[.int .i64 t0, .int .u64 n0, .string b0]] w fun e w' => e = .returned (.int .u32 0) ∧ Fr w w' := by
  go_enter Tryz.func194, Tryz.ntmps194
  go_wp2_with fail
  refine (HA _).mono ?_
  rintro e w1 ⟨rfl, hF1⟩
  have hz1 := hF1.size; (try simp at hz1)
  (try (have hz1_0 : w.heap.size < w1.heap.size := (by omega)))
  (try (have hz1_1 : w.heap.size + 1 < w1.heap.size := (by omega)))
  have hc1 := hF1.cells
  have hf1 := hF1.froz
  go_wp2_with fail
  refine (HB _).mono ?_
  rintro e w2 ⟨rfl, hF2⟩
  have hz2 := hF2.size; (try simp at hz2)
  (try (have hz2_0 : w.heap.size < w2.heap.size := (by omega)))
  (try (have hz2_1 : w.heap.size + 1 < w2.heap.size := (by omega)))
  have hc2 := hF2.cells
  have hf2 := hF2.froz
  go_wp2_with fail
  go_ret
  exact ⟨rfl, by (repeat (with_reducible first | exact Fr.refl _ | assumption | refine Fr.alloc ?_ _ | refine Fr.drew ?_ | refine Fr.drewN ?_ _ | refine Fr.set ?_ (by first | (simp; done) | (simp; omega)) _ | refine Fr.trans ?_ (by assumption)))⟩

/-- od.within: the code with which a value is refused by limits. -/
theorem within_any (e : E) (v : V) (he : e.wf) (hv : v.wf) (w : World) : Calls Tryz.prog 194 #[e.agg, v.agg] w fun r w' => r = .returned (.int .u32 (withinV e.mn e.mx v)) ∧ Fr w w' := by
  obtain ⟨_, _, h1, h2, h3⟩ := he
  have HA := order_any v e.mn hv h1
  have HB := order_any v e.mx hv h2
  obtain ⟨ix, sub, acc, mp, lim, ⟨t1, n1, b1⟩, ⟨t2, n2, b2⟩, ⟨t3, n3, b3⟩⟩ := e
  obtain ⟨t0, n0, b0⟩ := v
  unfold withinV E.agg
  dsimp only at *
  by_cases c1 : ordE ⟨t0, n0, b0⟩ ⟨t1, n1, b1⟩ = 0
  · by_cases c2 : ordE ⟨t0, n0, b0⟩ ⟨t2, n2, b2⟩ = 0
    · rw [if_neg (fun h => h.elim (fun h => h c1) (fun h => h c2))]
      by_cases c3 : 0 < ordN ⟨t0, n0, b0⟩ ⟨t2, n2, b2⟩
      · rw [if_pos c3]
        exact within_hi ix sub acc mp lim t1 n1 b1 t2 n2 b2 t3 n3 b3 t0 n0 b0 _ _ _ _ HA HB (bne_false c1) (bne_false c2) c3 w
      · rw [if_neg c3]
        by_cases c4 : ordN ⟨t0, n0, b0⟩ ⟨t1, n1, b1⟩ < 0
        · rw [if_pos c4]
          exact within_lo ix sub acc mp lim t1 n1 b1 t2 n2 b2 t3 n3 b3 t0 n0 b0 _ _ _ _ HA HB (bne_false c1) (bne_false c2) c3 c4 w
        · rw [if_neg c4]
          exact within_ok ix sub acc mp lim t1 n1 b1 t2 n2 b2 t3 n3 b3 t0 n0 b0 _ _ _ _ HA HB (bne_false c1) (bne_false c2) c3 c4 w
    · rw [if_pos (.inr c2)]
      exact within_g2 ix sub acc mp lim t1 n1 b1 t2 n2 b2 t3 n3 b3 t0 n0 b0 _ _ _ _ HA HB (bne_false c1) (bne_true c2) w
  · rw [if_pos (.inl c1)]
    exact within_g1 ix sub acc mp lim t1 n1 b1 t2 n2 b2 t3 n3 b3 t0 n0 b0 _ _ _ _ HA HB (bne_true c1) w

/-- od.limits. -/
theorem limits_any (e : E) (he : e.wf) (num : Bool) (w : World) : Calls Tryz.prog 208 #[e.agg, .bool num] w fun r w' => r = .returned (.bool (num && decide (withinV e.mn e.mx e.df = 0))) ∧ Fr w w' := by
  have HW := within_any e e.df he he.2.2.2.2
  obtain ⟨ix, sub, acc, mp, lim, ⟨t1, n1, b1⟩, ⟨t2, n2, b2⟩, ⟨t3, n3, b3⟩⟩ := e
  unfold E.agg at *
  dsimp only at *
  generalize withinV ⟨t1, n1, b1⟩ ⟨t2, n2, b2⟩ ⟨t3, n3, b3⟩ = c at *
  clear he
  cases num
  · go_enter Tryz.func208, Tryz.ntmps208
    go_wp2_with fail
    go_ret
    exact ⟨rfl, by (repeat (with_reducible first | exact Fr.refl _ | assumption | refine Fr.alloc ?_ _ | refine Fr.drew ?_ | refine Fr.drewN ?_ _ | refine Fr.set ?_ (by first | (simp; done) | (simp; omega)) _ | refine Fr.trans ?_ (by assumption)))⟩
  · go_enter Tryz.func208, Tryz.ntmps208
    go_wp2_with (first | (go_at_call 194; refine (HW _).mono ?_; rintro e w1 ⟨rfl, hF1⟩; have hz1 := hF1.size; (try simp at hz1); (try (have hz1_0 : w.heap.size < w1.heap.size := (by omega))); have hc1 := hF1.cells; have hf1 := hF1.froz))
    go_ret
    exact ⟨ret_bool (by simp; by_cases h : c = 0 <;> simp [h]), by (repeat (with_reducible first | exact Fr.refl _ | assumption | refine Fr.alloc ?_ _ | refine Fr.drew ?_ | refine Fr.drewN ?_ _ | refine Fr.set ?_ (by first | (simp; done) | (simp; omega)) _ | refine Fr.trans ?_ (by assumption)))⟩

theorem ent_chk (ix sub acc : Int) (mp lim : Bool) (t1 n1 : Int) (b1 : ByteArray) (t2 n2 : Int) (b2 : ByteArray) (t3 n3 : Int) (b3 : ByteArray) (k : Int) (num lm : Bool) (HC : ∀ w, Calls Tryz.prog 113 #[.agg #[.int .i64 t3, .int .u64 n3, .string b3]] w fun e w' => e = .returned (.int .i64 k) ∧ Fr w w')
    (HS : ∀ w, Calls Tryz.prog 159 #[.int .i64 t3] w fun e w' => e = .returned (.tuple #[.int .i64 (szOf t3), .bool num]) ∧ Fr w w')
    (HL : ∀ w, Calls Tryz.prog 208 #[.agg #[.int .u16 ix, .int .u8 sub, .int .i64 acc, .bool mp, .bool lim, .int .i64 t1, .int .u64 n1, .string b1, .int .i64 t2, .int .u64 n2, .string b2, .int .i64 t3, .int .u64 n3, .string b3], .bool num] w fun e w' => e = .returned (.bool lm) ∧ Fr w w') (hk : (k != 0) = true) (w : World) :
    Calls Tryz.prog 185 #[.agg #[.int .u16 ix, .int .u8 sub, .int .i64 acc, .bool mp, .bool lim, .int .i64 t1, .int .u64 n1, .string b1, .int .i64 t2, .int .u64 n2, .string b2, .int .i64 t3, .int .u64 n3, .string b3]] w fun e w' => e = .returned (.int .i64 k) ∧ Fr w w' := by
  go_enter Tryz.func185, Tryz.ntmps185
  go_wp2_with (first | (go_at_call 113; refine (HC _).mono ?_; rintro e w1 ⟨rfl, hF1⟩; have hz1 := hF1.size; (try simp at hz1); (try (have hz1_0 : w.heap.size < w1.heap.size := (by omega))); have hc1 := hF1.cells; have hf1 := hF1.froz) | (go_at_call 159; refine (HS _).mono ?_; rintro e w2 ⟨rfl, hF2⟩; have hz2 := hF2.size; (try simp at hz2); (try (have hz2_0 : w.heap.size < w2.heap.size := (by omega))); have hc2 := hF2.cells; have hf2 := hF2.froz) | (go_at_call 208; refine (HL _).mono ?_; rintro e w3 ⟨rfl, hF3⟩; have hz3 := hF3.size; (try simp at hz3); (try (have hz3_0 : w.heap.size < w3.heap.size := (by omega))); have hc3 := hF3.cells; have hf3 := hF3.froz))
  go_ret
  exact ⟨rfl, by (repeat (with_reducible first | exact Fr.refl _ | assumption | refine Fr.alloc ?_ _ | refine Fr.drew ?_ | refine Fr.drewN ?_ _ | refine Fr.set ?_ (by first | (simp; done) | (simp; omega)) _ | refine Fr.trans ?_ (by assumption)))⟩
theorem ent_neg (ix sub acc : Int) (mp lim : Bool) (t1 n1 : Int) (b1 : ByteArray) (t2 n2 : Int) (b2 : ByteArray) (t3 n3 : Int) (b3 : ByteArray) (k : Int) (num lm : Bool) (HC : ∀ w, Calls Tryz.prog 113 #[.agg #[.int .i64 t3, .int .u64 n3, .string b3]] w fun e w' => e = .returned (.int .i64 0) ∧ Fr w w')
    (HS : ∀ w, Calls Tryz.prog 159 #[.int .i64 t3] w fun e w' => e = .returned (.tuple #[.int .i64 (szOf t3), .bool num]) ∧ Fr w w')
    (HL : ∀ w, Calls Tryz.prog 208 #[.agg #[.int .u16 ix, .int .u8 sub, .int .i64 acc, .bool mp, .bool lim, .int .i64 t1, .int .u64 n1, .string b1, .int .i64 t2, .int .u64 n2, .string b2, .int .i64 t3, .int .u64 n3, .string b3], .bool num] w fun e w' => e = .returned (.bool lm) ∧ Fr w w') (h1 : acc < 0) (w : World) :
    Calls Tryz.prog 185 #[.agg #[.int .u16 ix, .int .u8 sub, .int .i64 acc, .bool mp, .bool lim, .int .i64 t1, .int .u64 n1, .string b1, .int .i64 t2, .int .u64 n2, .string b2, .int .i64 t3, .int .u64 n3, .string b3]] w fun e w' => e = .returned (.int .i64 1) ∧ Fr w w' := by
  go_enter Tryz.func185, Tryz.ntmps185
  go_wp2_with (first | (go_at_call 113; refine (HC _).mono ?_; rintro e w1 ⟨rfl, hF1⟩; have hz1 := hF1.size; (try simp at hz1); (try (have hz1_0 : w.heap.size < w1.heap.size := (by omega))); have hc1 := hF1.cells; have hf1 := hF1.froz) | (go_at_call 159; refine (HS _).mono ?_; rintro e w2 ⟨rfl, hF2⟩; have hz2 := hF2.size; (try simp at hz2); (try (have hz2_0 : w.heap.size < w2.heap.size := (by omega))); have hc2 := hF2.cells; have hf2 := hF2.froz) | (go_at_call 208; refine (HL _).mono ?_; rintro e w3 ⟨rfl, hF3⟩; have hz3 := hF3.size; (try simp at hz3); (try (have hz3_0 : w.heap.size < w3.heap.size := (by omega))); have hc3 := hF3.cells; have hf3 := hF3.froz))
  go_ret
  exact ⟨rfl, by (repeat (with_reducible first | exact Fr.refl _ | assumption | refine Fr.alloc ?_ _ | refine Fr.drew ?_ | refine Fr.drewN ?_ _ | refine Fr.set ?_ (by first | (simp; done) | (simp; omega)) _ | refine Fr.trans ?_ (by assumption)))⟩
theorem ent_big (ix sub acc : Int) (mp lim : Bool) (t1 n1 : Int) (b1 : ByteArray) (t2 n2 : Int) (b2 : ByteArray) (t3 n3 : Int) (b3 : ByteArray) (k : Int) (num lm : Bool) (HC : ∀ w, Calls Tryz.prog 113 #[.agg #[.int .i64 t3, .int .u64 n3, .string b3]] w fun e w' => e = .returned (.int .i64 0) ∧ Fr w w')
    (HS : ∀ w, Calls Tryz.prog 159 #[.int .i64 t3] w fun e w' => e = .returned (.tuple #[.int .i64 (szOf t3), .bool num]) ∧ Fr w w')
    (HL : ∀ w, Calls Tryz.prog 208 #[.agg #[.int .u16 ix, .int .u8 sub, .int .i64 acc, .bool mp, .bool lim, .int .i64 t1, .int .u64 n1, .string b1, .int .i64 t2, .int .u64 n2, .string b2, .int .i64 t3, .int .u64 n3, .string b3], .bool num] w fun e w' => e = .returned (.bool lm) ∧ Fr w w') (h1 : ¬ acc < 0) (h2 : 3 < acc) (w : World) :
    Calls Tryz.prog 185 #[.agg #[.int .u16 ix, .int .u8 sub, .int .i64 acc, .bool mp, .bool lim, .int .i64 t1, .int .u64 n1, .string b1, .int .i64 t2, .int .u64 n2, .string b2, .int .i64 t3, .int .u64 n3, .string b3]] w fun e w' => e = .returned (.int .i64 1) ∧ Fr w w' := by
  go_enter Tryz.func185, Tryz.ntmps185
  go_wp2_with (first | (go_at_call 113; refine (HC _).mono ?_; rintro e w1 ⟨rfl, hF1⟩; have hz1 := hF1.size; (try simp at hz1); (try (have hz1_0 : w.heap.size < w1.heap.size := (by omega))); have hc1 := hF1.cells; have hf1 := hF1.froz) | (go_at_call 159; refine (HS _).mono ?_; rintro e w2 ⟨rfl, hF2⟩; have hz2 := hF2.size; (try simp at hz2); (try (have hz2_0 : w.heap.size < w2.heap.size := (by omega))); have hc2 := hF2.cells; have hf2 := hF2.froz) | (go_at_call 208; refine (HL _).mono ?_; rintro e w3 ⟨rfl, hF3⟩; have hz3 := hF3.size; (try simp at hz3); (try (have hz3_0 : w.heap.size < w3.heap.size := (by omega))); have hc3 := hF3.cells; have hf3 := hF3.froz))
  go_ret
  exact ⟨rfl, by (repeat (with_reducible first | exact Fr.refl _ | assumption | refine Fr.alloc ?_ _ | refine Fr.drew ?_ | refine Fr.drewN ?_ _ | refine Fr.set ?_ (by first | (simp; done) | (simp; omega)) _ | refine Fr.trans ?_ (by assumption)))⟩
theorem ent_map (ix sub acc : Int) (mp lim : Bool) (t1 n1 : Int) (b1 : ByteArray) (t2 n2 : Int) (b2 : ByteArray) (t3 n3 : Int) (b3 : ByteArray) (k : Int) (num lm : Bool) (HC : ∀ w, Calls Tryz.prog 113 #[.agg #[.int .i64 t3, .int .u64 n3, .string b3]] w fun e w' => e = .returned (.int .i64 0) ∧ Fr w w')
    (HS : ∀ w, Calls Tryz.prog 159 #[.int .i64 t3] w fun e w' => e = .returned (.tuple #[.int .i64 (szOf t3), .bool num]) ∧ Fr w w')
    (HL : ∀ w, Calls Tryz.prog 208 #[.agg #[.int .u16 ix, .int .u8 sub, .int .i64 acc, .bool mp, .bool lim, .int .i64 t1, .int .u64 n1, .string b1, .int .i64 t2, .int .u64 n2, .string b2, .int .i64 t3, .int .u64 n3, .string b3], .bool num] w fun e w' => e = .returned (.bool lm) ∧ Fr w w') (h1 : ¬ acc < 0) (h2 : ¬ 3 < acc) (h3 : mp = true) (h4 : num = false) (w : World) :
    Calls Tryz.prog 185 #[.agg #[.int .u16 ix, .int .u8 sub, .int .i64 acc, .bool mp, .bool lim, .int .i64 t1, .int .u64 n1, .string b1, .int .i64 t2, .int .u64 n2, .string b2, .int .i64 t3, .int .u64 n3, .string b3]] w fun e w' => e = .returned (.int .i64 1) ∧ Fr w w' := by
  subst h3 h4
  go_enter Tryz.func185, Tryz.ntmps185
  go_wp2_with (first | (go_at_call 113; refine (HC _).mono ?_; rintro e w1 ⟨rfl, hF1⟩; have hz1 := hF1.size; (try simp at hz1); (try (have hz1_0 : w.heap.size < w1.heap.size := (by omega))); have hc1 := hF1.cells; have hf1 := hF1.froz) | (go_at_call 159; refine (HS _).mono ?_; rintro e w2 ⟨rfl, hF2⟩; have hz2 := hF2.size; (try simp at hz2); (try (have hz2_0 : w.heap.size < w2.heap.size := (by omega))); have hc2 := hF2.cells; have hf2 := hF2.froz) | (go_at_call 208; refine (HL _).mono ?_; rintro e w3 ⟨rfl, hF3⟩; have hz3 := hF3.size; (try simp at hz3); (try (have hz3_0 : w.heap.size < w3.heap.size := (by omega))); have hc3 := hF3.cells; have hf3 := hF3.froz))
  go_ret
  exact ⟨rfl, by (repeat (with_reducible first | exact Fr.refl _ | assumption | refine Fr.alloc ?_ _ | refine Fr.drew ?_ | refine Fr.drewN ?_ _ | refine Fr.set ?_ (by first | (simp; done) | (simp; omega)) _ | refine Fr.trans ?_ (by assumption)))⟩
theorem ent_lim_ff (ix sub acc : Int) (mp lim : Bool) (t1 n1 : Int) (b1 : ByteArray) (t2 n2 : Int) (b2 : ByteArray) (t3 n3 : Int) (b3 : ByteArray) (k : Int) (num lm : Bool) (HC : ∀ w, Calls Tryz.prog 113 #[.agg #[.int .i64 t3, .int .u64 n3, .string b3]] w fun e w' => e = .returned (.int .i64 0) ∧ Fr w w')
    (HS : ∀ w, Calls Tryz.prog 159 #[.int .i64 t3] w fun e w' => e = .returned (.tuple #[.int .i64 (szOf t3), .bool num]) ∧ Fr w w')
    (HL : ∀ w, Calls Tryz.prog 208 #[.agg #[.int .u16 ix, .int .u8 sub, .int .i64 acc, .bool mp, .bool lim, .int .i64 t1, .int .u64 n1, .string b1, .int .i64 t2, .int .u64 n2, .string b2, .int .i64 t3, .int .u64 n3, .string b3], .bool num] w fun e w' => e = .returned (.bool lm) ∧ Fr w w') (h1 : ¬ acc < 0) (h2 : ¬ 3 < acc) (h3 : mp = false) (h3b : num = false) (h4 : lim = true) (h5 : lm = false) (w : World) :
    Calls Tryz.prog 185 #[.agg #[.int .u16 ix, .int .u8 sub, .int .i64 acc, .bool mp, .bool lim, .int .i64 t1, .int .u64 n1, .string b1, .int .i64 t2, .int .u64 n2, .string b2, .int .i64 t3, .int .u64 n3, .string b3]] w fun e w' => e = .returned (.int .i64 1) ∧ Fr w w' := by
  subst h3 h3b h4 h5
  go_enter Tryz.func185, Tryz.ntmps185
  go_wp2_with (first | (go_at_call 113; refine (HC _).mono ?_; rintro e w1 ⟨rfl, hF1⟩; have hz1 := hF1.size; (try simp at hz1); (try (have hz1_0 : w.heap.size < w1.heap.size := (by omega))); have hc1 := hF1.cells; have hf1 := hF1.froz) | (go_at_call 159; refine (HS _).mono ?_; rintro e w2 ⟨rfl, hF2⟩; have hz2 := hF2.size; (try simp at hz2); (try (have hz2_0 : w.heap.size < w2.heap.size := (by omega))); have hc2 := hF2.cells; have hf2 := hF2.froz) | (go_at_call 208; refine (HL _).mono ?_; rintro e w3 ⟨rfl, hF3⟩; have hz3 := hF3.size; (try simp at hz3); (try (have hz3_0 : w.heap.size < w3.heap.size := (by omega))); have hc3 := hF3.cells; have hf3 := hF3.froz))
  go_ret
  exact ⟨rfl, by (repeat (with_reducible first | exact Fr.refl _ | assumption | refine Fr.alloc ?_ _ | refine Fr.drew ?_ | refine Fr.drewN ?_ _ | refine Fr.set ?_ (by first | (simp; done) | (simp; omega)) _ | refine Fr.trans ?_ (by assumption)))⟩
theorem ent_ok_ffff (ix sub acc : Int) (mp lim : Bool) (t1 n1 : Int) (b1 : ByteArray) (t2 n2 : Int) (b2 : ByteArray) (t3 n3 : Int) (b3 : ByteArray) (k : Int) (num lm : Bool) (HC : ∀ w, Calls Tryz.prog 113 #[.agg #[.int .i64 t3, .int .u64 n3, .string b3]] w fun e w' => e = .returned (.int .i64 0) ∧ Fr w w')
    (HS : ∀ w, Calls Tryz.prog 159 #[.int .i64 t3] w fun e w' => e = .returned (.tuple #[.int .i64 (szOf t3), .bool num]) ∧ Fr w w')
    (HL : ∀ w, Calls Tryz.prog 208 #[.agg #[.int .u16 ix, .int .u8 sub, .int .i64 acc, .bool mp, .bool lim, .int .i64 t1, .int .u64 n1, .string b1, .int .i64 t2, .int .u64 n2, .string b2, .int .i64 t3, .int .u64 n3, .string b3], .bool num] w fun e w' => e = .returned (.bool lm) ∧ Fr w w') (h1 : ¬ acc < 0) (h2 : ¬ 3 < acc) (h3 : mp = false) (h3b : num = false) (h4 : lim = false) (h5 : lm = false) (w : World) :
    Calls Tryz.prog 185 #[.agg #[.int .u16 ix, .int .u8 sub, .int .i64 acc, .bool mp, .bool lim, .int .i64 t1, .int .u64 n1, .string b1, .int .i64 t2, .int .u64 n2, .string b2, .int .i64 t3, .int .u64 n3, .string b3]] w fun e w' => e = .returned (.int .i64 0) ∧ Fr w w' := by
  subst h3 h3b h4 h5
  go_enter Tryz.func185, Tryz.ntmps185
  go_wp2_with (first | (go_at_call 113; refine (HC _).mono ?_; rintro e w1 ⟨rfl, hF1⟩; have hz1 := hF1.size; (try simp at hz1); (try (have hz1_0 : w.heap.size < w1.heap.size := (by omega))); have hc1 := hF1.cells; have hf1 := hF1.froz) | (go_at_call 159; refine (HS _).mono ?_; rintro e w2 ⟨rfl, hF2⟩; have hz2 := hF2.size; (try simp at hz2); (try (have hz2_0 : w.heap.size < w2.heap.size := (by omega))); have hc2 := hF2.cells; have hf2 := hF2.froz) | (go_at_call 208; refine (HL _).mono ?_; rintro e w3 ⟨rfl, hF3⟩; have hz3 := hF3.size; (try simp at hz3); (try (have hz3_0 : w.heap.size < w3.heap.size := (by omega))); have hc3 := hF3.cells; have hf3 := hF3.froz))
  go_ret
  exact ⟨rfl, by (repeat (with_reducible first | exact Fr.refl _ | assumption | refine Fr.alloc ?_ _ | refine Fr.drew ?_ | refine Fr.drewN ?_ _ | refine Fr.set ?_ (by first | (simp; done) | (simp; omega)) _ | refine Fr.trans ?_ (by assumption)))⟩
theorem ent_ok_ffft (ix sub acc : Int) (mp lim : Bool) (t1 n1 : Int) (b1 : ByteArray) (t2 n2 : Int) (b2 : ByteArray) (t3 n3 : Int) (b3 : ByteArray) (k : Int) (num lm : Bool) (HC : ∀ w, Calls Tryz.prog 113 #[.agg #[.int .i64 t3, .int .u64 n3, .string b3]] w fun e w' => e = .returned (.int .i64 0) ∧ Fr w w')
    (HS : ∀ w, Calls Tryz.prog 159 #[.int .i64 t3] w fun e w' => e = .returned (.tuple #[.int .i64 (szOf t3), .bool num]) ∧ Fr w w')
    (HL : ∀ w, Calls Tryz.prog 208 #[.agg #[.int .u16 ix, .int .u8 sub, .int .i64 acc, .bool mp, .bool lim, .int .i64 t1, .int .u64 n1, .string b1, .int .i64 t2, .int .u64 n2, .string b2, .int .i64 t3, .int .u64 n3, .string b3], .bool num] w fun e w' => e = .returned (.bool lm) ∧ Fr w w') (h1 : ¬ acc < 0) (h2 : ¬ 3 < acc) (h3 : mp = false) (h3b : num = false) (h4 : lim = false) (h5 : lm = true) (w : World) :
    Calls Tryz.prog 185 #[.agg #[.int .u16 ix, .int .u8 sub, .int .i64 acc, .bool mp, .bool lim, .int .i64 t1, .int .u64 n1, .string b1, .int .i64 t2, .int .u64 n2, .string b2, .int .i64 t3, .int .u64 n3, .string b3]] w fun e w' => e = .returned (.int .i64 0) ∧ Fr w w' := by
  subst h3 h3b h4 h5
  go_enter Tryz.func185, Tryz.ntmps185
  go_wp2_with (first | (go_at_call 113; refine (HC _).mono ?_; rintro e w1 ⟨rfl, hF1⟩; have hz1 := hF1.size; (try simp at hz1); (try (have hz1_0 : w.heap.size < w1.heap.size := (by omega))); have hc1 := hF1.cells; have hf1 := hF1.froz) | (go_at_call 159; refine (HS _).mono ?_; rintro e w2 ⟨rfl, hF2⟩; have hz2 := hF2.size; (try simp at hz2); (try (have hz2_0 : w.heap.size < w2.heap.size := (by omega))); have hc2 := hF2.cells; have hf2 := hF2.froz) | (go_at_call 208; refine (HL _).mono ?_; rintro e w3 ⟨rfl, hF3⟩; have hz3 := hF3.size; (try simp at hz3); (try (have hz3_0 : w.heap.size < w3.heap.size := (by omega))); have hc3 := hF3.cells; have hf3 := hF3.froz))
  go_ret
  exact ⟨rfl, by (repeat (with_reducible first | exact Fr.refl _ | assumption | refine Fr.alloc ?_ _ | refine Fr.drew ?_ | refine Fr.drewN ?_ _ | refine Fr.set ?_ (by first | (simp; done) | (simp; omega)) _ | refine Fr.trans ?_ (by assumption)))⟩
theorem ent_ok_fftt (ix sub acc : Int) (mp lim : Bool) (t1 n1 : Int) (b1 : ByteArray) (t2 n2 : Int) (b2 : ByteArray) (t3 n3 : Int) (b3 : ByteArray) (k : Int) (num lm : Bool) (HC : ∀ w, Calls Tryz.prog 113 #[.agg #[.int .i64 t3, .int .u64 n3, .string b3]] w fun e w' => e = .returned (.int .i64 0) ∧ Fr w w')
    (HS : ∀ w, Calls Tryz.prog 159 #[.int .i64 t3] w fun e w' => e = .returned (.tuple #[.int .i64 (szOf t3), .bool num]) ∧ Fr w w')
    (HL : ∀ w, Calls Tryz.prog 208 #[.agg #[.int .u16 ix, .int .u8 sub, .int .i64 acc, .bool mp, .bool lim, .int .i64 t1, .int .u64 n1, .string b1, .int .i64 t2, .int .u64 n2, .string b2, .int .i64 t3, .int .u64 n3, .string b3], .bool num] w fun e w' => e = .returned (.bool lm) ∧ Fr w w') (h1 : ¬ acc < 0) (h2 : ¬ 3 < acc) (h3 : mp = false) (h3b : num = false) (h4 : lim = true) (h5 : lm = true) (w : World) :
    Calls Tryz.prog 185 #[.agg #[.int .u16 ix, .int .u8 sub, .int .i64 acc, .bool mp, .bool lim, .int .i64 t1, .int .u64 n1, .string b1, .int .i64 t2, .int .u64 n2, .string b2, .int .i64 t3, .int .u64 n3, .string b3]] w fun e w' => e = .returned (.int .i64 0) ∧ Fr w w' := by
  subst h3 h3b h4 h5
  go_enter Tryz.func185, Tryz.ntmps185
  go_wp2_with (first | (go_at_call 113; refine (HC _).mono ?_; rintro e w1 ⟨rfl, hF1⟩; have hz1 := hF1.size; (try simp at hz1); (try (have hz1_0 : w.heap.size < w1.heap.size := (by omega))); have hc1 := hF1.cells; have hf1 := hF1.froz) | (go_at_call 159; refine (HS _).mono ?_; rintro e w2 ⟨rfl, hF2⟩; have hz2 := hF2.size; (try simp at hz2); (try (have hz2_0 : w.heap.size < w2.heap.size := (by omega))); have hc2 := hF2.cells; have hf2 := hF2.froz) | (go_at_call 208; refine (HL _).mono ?_; rintro e w3 ⟨rfl, hF3⟩; have hz3 := hF3.size; (try simp at hz3); (try (have hz3_0 : w.heap.size < w3.heap.size := (by omega))); have hc3 := hF3.cells; have hf3 := hF3.froz))
  go_ret
  exact ⟨rfl, by (repeat (with_reducible first | exact Fr.refl _ | assumption | refine Fr.alloc ?_ _ | refine Fr.drew ?_ | refine Fr.drewN ?_ _ | refine Fr.set ?_ (by first | (simp; done) | (simp; omega)) _ | refine Fr.trans ?_ (by assumption)))⟩
theorem ent_lim_ft (ix sub acc : Int) (mp lim : Bool) (t1 n1 : Int) (b1 : ByteArray) (t2 n2 : Int) (b2 : ByteArray) (t3 n3 : Int) (b3 : ByteArray) (k : Int) (num lm : Bool) (HC : ∀ w, Calls Tryz.prog 113 #[.agg #[.int .i64 t3, .int .u64 n3, .string b3]] w fun e w' => e = .returned (.int .i64 0) ∧ Fr w w')
    (HS : ∀ w, Calls Tryz.prog 159 #[.int .i64 t3] w fun e w' => e = .returned (.tuple #[.int .i64 (szOf t3), .bool num]) ∧ Fr w w')
    (HL : ∀ w, Calls Tryz.prog 208 #[.agg #[.int .u16 ix, .int .u8 sub, .int .i64 acc, .bool mp, .bool lim, .int .i64 t1, .int .u64 n1, .string b1, .int .i64 t2, .int .u64 n2, .string b2, .int .i64 t3, .int .u64 n3, .string b3], .bool num] w fun e w' => e = .returned (.bool lm) ∧ Fr w w') (h1 : ¬ acc < 0) (h2 : ¬ 3 < acc) (h3 : mp = false) (h3b : num = true) (h4 : lim = true) (h5 : lm = false) (w : World) :
    Calls Tryz.prog 185 #[.agg #[.int .u16 ix, .int .u8 sub, .int .i64 acc, .bool mp, .bool lim, .int .i64 t1, .int .u64 n1, .string b1, .int .i64 t2, .int .u64 n2, .string b2, .int .i64 t3, .int .u64 n3, .string b3]] w fun e w' => e = .returned (.int .i64 1) ∧ Fr w w' := by
  subst h3 h3b h4 h5
  go_enter Tryz.func185, Tryz.ntmps185
  go_wp2_with (first | (go_at_call 113; refine (HC _).mono ?_; rintro e w1 ⟨rfl, hF1⟩; have hz1 := hF1.size; (try simp at hz1); (try (have hz1_0 : w.heap.size < w1.heap.size := (by omega))); have hc1 := hF1.cells; have hf1 := hF1.froz) | (go_at_call 159; refine (HS _).mono ?_; rintro e w2 ⟨rfl, hF2⟩; have hz2 := hF2.size; (try simp at hz2); (try (have hz2_0 : w.heap.size < w2.heap.size := (by omega))); have hc2 := hF2.cells; have hf2 := hF2.froz) | (go_at_call 208; refine (HL _).mono ?_; rintro e w3 ⟨rfl, hF3⟩; have hz3 := hF3.size; (try simp at hz3); (try (have hz3_0 : w.heap.size < w3.heap.size := (by omega))); have hc3 := hF3.cells; have hf3 := hF3.froz))
  go_ret
  exact ⟨rfl, by (repeat (with_reducible first | exact Fr.refl _ | assumption | refine Fr.alloc ?_ _ | refine Fr.drew ?_ | refine Fr.drewN ?_ _ | refine Fr.set ?_ (by first | (simp; done) | (simp; omega)) _ | refine Fr.trans ?_ (by assumption)))⟩
theorem ent_ok_ftff (ix sub acc : Int) (mp lim : Bool) (t1 n1 : Int) (b1 : ByteArray) (t2 n2 : Int) (b2 : ByteArray) (t3 n3 : Int) (b3 : ByteArray) (k : Int) (num lm : Bool) (HC : ∀ w, Calls Tryz.prog 113 #[.agg #[.int .i64 t3, .int .u64 n3, .string b3]] w fun e w' => e = .returned (.int .i64 0) ∧ Fr w w')
    (HS : ∀ w, Calls Tryz.prog 159 #[.int .i64 t3] w fun e w' => e = .returned (.tuple #[.int .i64 (szOf t3), .bool num]) ∧ Fr w w')
    (HL : ∀ w, Calls Tryz.prog 208 #[.agg #[.int .u16 ix, .int .u8 sub, .int .i64 acc, .bool mp, .bool lim, .int .i64 t1, .int .u64 n1, .string b1, .int .i64 t2, .int .u64 n2, .string b2, .int .i64 t3, .int .u64 n3, .string b3], .bool num] w fun e w' => e = .returned (.bool lm) ∧ Fr w w') (h1 : ¬ acc < 0) (h2 : ¬ 3 < acc) (h3 : mp = false) (h3b : num = true) (h4 : lim = false) (h5 : lm = false) (w : World) :
    Calls Tryz.prog 185 #[.agg #[.int .u16 ix, .int .u8 sub, .int .i64 acc, .bool mp, .bool lim, .int .i64 t1, .int .u64 n1, .string b1, .int .i64 t2, .int .u64 n2, .string b2, .int .i64 t3, .int .u64 n3, .string b3]] w fun e w' => e = .returned (.int .i64 0) ∧ Fr w w' := by
  subst h3 h3b h4 h5
  go_enter Tryz.func185, Tryz.ntmps185
  go_wp2_with (first | (go_at_call 113; refine (HC _).mono ?_; rintro e w1 ⟨rfl, hF1⟩; have hz1 := hF1.size; (try simp at hz1); (try (have hz1_0 : w.heap.size < w1.heap.size := (by omega))); have hc1 := hF1.cells; have hf1 := hF1.froz) | (go_at_call 159; refine (HS _).mono ?_; rintro e w2 ⟨rfl, hF2⟩; have hz2 := hF2.size; (try simp at hz2); (try (have hz2_0 : w.heap.size < w2.heap.size := (by omega))); have hc2 := hF2.cells; have hf2 := hF2.froz) | (go_at_call 208; refine (HL _).mono ?_; rintro e w3 ⟨rfl, hF3⟩; have hz3 := hF3.size; (try simp at hz3); (try (have hz3_0 : w.heap.size < w3.heap.size := (by omega))); have hc3 := hF3.cells; have hf3 := hF3.froz))
  go_ret
  exact ⟨rfl, by (repeat (with_reducible first | exact Fr.refl _ | assumption | refine Fr.alloc ?_ _ | refine Fr.drew ?_ | refine Fr.drewN ?_ _ | refine Fr.set ?_ (by first | (simp; done) | (simp; omega)) _ | refine Fr.trans ?_ (by assumption)))⟩
theorem ent_ok_ftft (ix sub acc : Int) (mp lim : Bool) (t1 n1 : Int) (b1 : ByteArray) (t2 n2 : Int) (b2 : ByteArray) (t3 n3 : Int) (b3 : ByteArray) (k : Int) (num lm : Bool) (HC : ∀ w, Calls Tryz.prog 113 #[.agg #[.int .i64 t3, .int .u64 n3, .string b3]] w fun e w' => e = .returned (.int .i64 0) ∧ Fr w w')
    (HS : ∀ w, Calls Tryz.prog 159 #[.int .i64 t3] w fun e w' => e = .returned (.tuple #[.int .i64 (szOf t3), .bool num]) ∧ Fr w w')
    (HL : ∀ w, Calls Tryz.prog 208 #[.agg #[.int .u16 ix, .int .u8 sub, .int .i64 acc, .bool mp, .bool lim, .int .i64 t1, .int .u64 n1, .string b1, .int .i64 t2, .int .u64 n2, .string b2, .int .i64 t3, .int .u64 n3, .string b3], .bool num] w fun e w' => e = .returned (.bool lm) ∧ Fr w w') (h1 : ¬ acc < 0) (h2 : ¬ 3 < acc) (h3 : mp = false) (h3b : num = true) (h4 : lim = false) (h5 : lm = true) (w : World) :
    Calls Tryz.prog 185 #[.agg #[.int .u16 ix, .int .u8 sub, .int .i64 acc, .bool mp, .bool lim, .int .i64 t1, .int .u64 n1, .string b1, .int .i64 t2, .int .u64 n2, .string b2, .int .i64 t3, .int .u64 n3, .string b3]] w fun e w' => e = .returned (.int .i64 0) ∧ Fr w w' := by
  subst h3 h3b h4 h5
  go_enter Tryz.func185, Tryz.ntmps185
  go_wp2_with (first | (go_at_call 113; refine (HC _).mono ?_; rintro e w1 ⟨rfl, hF1⟩; have hz1 := hF1.size; (try simp at hz1); (try (have hz1_0 : w.heap.size < w1.heap.size := (by omega))); have hc1 := hF1.cells; have hf1 := hF1.froz) | (go_at_call 159; refine (HS _).mono ?_; rintro e w2 ⟨rfl, hF2⟩; have hz2 := hF2.size; (try simp at hz2); (try (have hz2_0 : w.heap.size < w2.heap.size := (by omega))); have hc2 := hF2.cells; have hf2 := hF2.froz) | (go_at_call 208; refine (HL _).mono ?_; rintro e w3 ⟨rfl, hF3⟩; have hz3 := hF3.size; (try simp at hz3); (try (have hz3_0 : w.heap.size < w3.heap.size := (by omega))); have hc3 := hF3.cells; have hf3 := hF3.froz))
  go_ret
  exact ⟨rfl, by (repeat (with_reducible first | exact Fr.refl _ | assumption | refine Fr.alloc ?_ _ | refine Fr.drew ?_ | refine Fr.drewN ?_ _ | refine Fr.set ?_ (by first | (simp; done) | (simp; omega)) _ | refine Fr.trans ?_ (by assumption)))⟩
theorem ent_ok_fttt (ix sub acc : Int) (mp lim : Bool) (t1 n1 : Int) (b1 : ByteArray) (t2 n2 : Int) (b2 : ByteArray) (t3 n3 : Int) (b3 : ByteArray) (k : Int) (num lm : Bool) (HC : ∀ w, Calls Tryz.prog 113 #[.agg #[.int .i64 t3, .int .u64 n3, .string b3]] w fun e w' => e = .returned (.int .i64 0) ∧ Fr w w')
    (HS : ∀ w, Calls Tryz.prog 159 #[.int .i64 t3] w fun e w' => e = .returned (.tuple #[.int .i64 (szOf t3), .bool num]) ∧ Fr w w')
    (HL : ∀ w, Calls Tryz.prog 208 #[.agg #[.int .u16 ix, .int .u8 sub, .int .i64 acc, .bool mp, .bool lim, .int .i64 t1, .int .u64 n1, .string b1, .int .i64 t2, .int .u64 n2, .string b2, .int .i64 t3, .int .u64 n3, .string b3], .bool num] w fun e w' => e = .returned (.bool lm) ∧ Fr w w') (h1 : ¬ acc < 0) (h2 : ¬ 3 < acc) (h3 : mp = false) (h3b : num = true) (h4 : lim = true) (h5 : lm = true) (w : World) :
    Calls Tryz.prog 185 #[.agg #[.int .u16 ix, .int .u8 sub, .int .i64 acc, .bool mp, .bool lim, .int .i64 t1, .int .u64 n1, .string b1, .int .i64 t2, .int .u64 n2, .string b2, .int .i64 t3, .int .u64 n3, .string b3]] w fun e w' => e = .returned (.int .i64 0) ∧ Fr w w' := by
  subst h3 h3b h4 h5
  go_enter Tryz.func185, Tryz.ntmps185
  go_wp2_with (first | (go_at_call 113; refine (HC _).mono ?_; rintro e w1 ⟨rfl, hF1⟩; have hz1 := hF1.size; (try simp at hz1); (try (have hz1_0 : w.heap.size < w1.heap.size := (by omega))); have hc1 := hF1.cells; have hf1 := hF1.froz) | (go_at_call 159; refine (HS _).mono ?_; rintro e w2 ⟨rfl, hF2⟩; have hz2 := hF2.size; (try simp at hz2); (try (have hz2_0 : w.heap.size < w2.heap.size := (by omega))); have hc2 := hF2.cells; have hf2 := hF2.froz) | (go_at_call 208; refine (HL _).mono ?_; rintro e w3 ⟨rfl, hF3⟩; have hz3 := hF3.size; (try simp at hz3); (try (have hz3_0 : w.heap.size < w3.heap.size := (by omega))); have hc3 := hF3.cells; have hf3 := hF3.froz))
  go_ret
  exact ⟨rfl, by (repeat (with_reducible first | exact Fr.refl _ | assumption | refine Fr.alloc ?_ _ | refine Fr.drew ?_ | refine Fr.drewN ?_ _ | refine Fr.set ?_ (by first | (simp; done) | (simp; omega)) _ | refine Fr.trans ?_ (by assumption)))⟩
theorem ent_lim_tt (ix sub acc : Int) (mp lim : Bool) (t1 n1 : Int) (b1 : ByteArray) (t2 n2 : Int) (b2 : ByteArray) (t3 n3 : Int) (b3 : ByteArray) (k : Int) (num lm : Bool) (HC : ∀ w, Calls Tryz.prog 113 #[.agg #[.int .i64 t3, .int .u64 n3, .string b3]] w fun e w' => e = .returned (.int .i64 0) ∧ Fr w w')
    (HS : ∀ w, Calls Tryz.prog 159 #[.int .i64 t3] w fun e w' => e = .returned (.tuple #[.int .i64 (szOf t3), .bool num]) ∧ Fr w w')
    (HL : ∀ w, Calls Tryz.prog 208 #[.agg #[.int .u16 ix, .int .u8 sub, .int .i64 acc, .bool mp, .bool lim, .int .i64 t1, .int .u64 n1, .string b1, .int .i64 t2, .int .u64 n2, .string b2, .int .i64 t3, .int .u64 n3, .string b3], .bool num] w fun e w' => e = .returned (.bool lm) ∧ Fr w w') (h1 : ¬ acc < 0) (h2 : ¬ 3 < acc) (h3 : mp = true) (h3b : num = true) (h4 : lim = true) (h5 : lm = false) (w : World) :
    Calls Tryz.prog 185 #[.agg #[.int .u16 ix, .int .u8 sub, .int .i64 acc, .bool mp, .bool lim, .int .i64 t1, .int .u64 n1, .string b1, .int .i64 t2, .int .u64 n2, .string b2, .int .i64 t3, .int .u64 n3, .string b3]] w fun e w' => e = .returned (.int .i64 1) ∧ Fr w w' := by
  subst h3 h3b h4 h5
  go_enter Tryz.func185, Tryz.ntmps185
  go_wp2_with (first | (go_at_call 113; refine (HC _).mono ?_; rintro e w1 ⟨rfl, hF1⟩; have hz1 := hF1.size; (try simp at hz1); (try (have hz1_0 : w.heap.size < w1.heap.size := (by omega))); have hc1 := hF1.cells; have hf1 := hF1.froz) | (go_at_call 159; refine (HS _).mono ?_; rintro e w2 ⟨rfl, hF2⟩; have hz2 := hF2.size; (try simp at hz2); (try (have hz2_0 : w.heap.size < w2.heap.size := (by omega))); have hc2 := hF2.cells; have hf2 := hF2.froz) | (go_at_call 208; refine (HL _).mono ?_; rintro e w3 ⟨rfl, hF3⟩; have hz3 := hF3.size; (try simp at hz3); (try (have hz3_0 : w.heap.size < w3.heap.size := (by omega))); have hc3 := hF3.cells; have hf3 := hF3.froz))
  go_ret
  exact ⟨rfl, by (repeat (with_reducible first | exact Fr.refl _ | assumption | refine Fr.alloc ?_ _ | refine Fr.drew ?_ | refine Fr.drewN ?_ _ | refine Fr.set ?_ (by first | (simp; done) | (simp; omega)) _ | refine Fr.trans ?_ (by assumption)))⟩
theorem ent_ok_ttff (ix sub acc : Int) (mp lim : Bool) (t1 n1 : Int) (b1 : ByteArray) (t2 n2 : Int) (b2 : ByteArray) (t3 n3 : Int) (b3 : ByteArray) (k : Int) (num lm : Bool) (HC : ∀ w, Calls Tryz.prog 113 #[.agg #[.int .i64 t3, .int .u64 n3, .string b3]] w fun e w' => e = .returned (.int .i64 0) ∧ Fr w w')
    (HS : ∀ w, Calls Tryz.prog 159 #[.int .i64 t3] w fun e w' => e = .returned (.tuple #[.int .i64 (szOf t3), .bool num]) ∧ Fr w w')
    (HL : ∀ w, Calls Tryz.prog 208 #[.agg #[.int .u16 ix, .int .u8 sub, .int .i64 acc, .bool mp, .bool lim, .int .i64 t1, .int .u64 n1, .string b1, .int .i64 t2, .int .u64 n2, .string b2, .int .i64 t3, .int .u64 n3, .string b3], .bool num] w fun e w' => e = .returned (.bool lm) ∧ Fr w w') (h1 : ¬ acc < 0) (h2 : ¬ 3 < acc) (h3 : mp = true) (h3b : num = true) (h4 : lim = false) (h5 : lm = false) (w : World) :
    Calls Tryz.prog 185 #[.agg #[.int .u16 ix, .int .u8 sub, .int .i64 acc, .bool mp, .bool lim, .int .i64 t1, .int .u64 n1, .string b1, .int .i64 t2, .int .u64 n2, .string b2, .int .i64 t3, .int .u64 n3, .string b3]] w fun e w' => e = .returned (.int .i64 0) ∧ Fr w w' := by
  subst h3 h3b h4 h5
  go_enter Tryz.func185, Tryz.ntmps185
  go_wp2_with (first | (go_at_call 113; refine (HC _).mono ?_; rintro e w1 ⟨rfl, hF1⟩; have hz1 := hF1.size; (try simp at hz1); (try (have hz1_0 : w.heap.size < w1.heap.size := (by omega))); have hc1 := hF1.cells; have hf1 := hF1.froz) | (go_at_call 159; refine (HS _).mono ?_; rintro e w2 ⟨rfl, hF2⟩; have hz2 := hF2.size; (try simp at hz2); (try (have hz2_0 : w.heap.size < w2.heap.size := (by omega))); have hc2 := hF2.cells; have hf2 := hF2.froz) | (go_at_call 208; refine (HL _).mono ?_; rintro e w3 ⟨rfl, hF3⟩; have hz3 := hF3.size; (try simp at hz3); (try (have hz3_0 : w.heap.size < w3.heap.size := (by omega))); have hc3 := hF3.cells; have hf3 := hF3.froz))
  go_ret
  exact ⟨rfl, by (repeat (with_reducible first | exact Fr.refl _ | assumption | refine Fr.alloc ?_ _ | refine Fr.drew ?_ | refine Fr.drewN ?_ _ | refine Fr.set ?_ (by first | (simp; done) | (simp; omega)) _ | refine Fr.trans ?_ (by assumption)))⟩
theorem ent_ok_ttft (ix sub acc : Int) (mp lim : Bool) (t1 n1 : Int) (b1 : ByteArray) (t2 n2 : Int) (b2 : ByteArray) (t3 n3 : Int) (b3 : ByteArray) (k : Int) (num lm : Bool) (HC : ∀ w, Calls Tryz.prog 113 #[.agg #[.int .i64 t3, .int .u64 n3, .string b3]] w fun e w' => e = .returned (.int .i64 0) ∧ Fr w w')
    (HS : ∀ w, Calls Tryz.prog 159 #[.int .i64 t3] w fun e w' => e = .returned (.tuple #[.int .i64 (szOf t3), .bool num]) ∧ Fr w w')
    (HL : ∀ w, Calls Tryz.prog 208 #[.agg #[.int .u16 ix, .int .u8 sub, .int .i64 acc, .bool mp, .bool lim, .int .i64 t1, .int .u64 n1, .string b1, .int .i64 t2, .int .u64 n2, .string b2, .int .i64 t3, .int .u64 n3, .string b3], .bool num] w fun e w' => e = .returned (.bool lm) ∧ Fr w w') (h1 : ¬ acc < 0) (h2 : ¬ 3 < acc) (h3 : mp = true) (h3b : num = true) (h4 : lim = false) (h5 : lm = true) (w : World) :
    Calls Tryz.prog 185 #[.agg #[.int .u16 ix, .int .u8 sub, .int .i64 acc, .bool mp, .bool lim, .int .i64 t1, .int .u64 n1, .string b1, .int .i64 t2, .int .u64 n2, .string b2, .int .i64 t3, .int .u64 n3, .string b3]] w fun e w' => e = .returned (.int .i64 0) ∧ Fr w w' := by
  subst h3 h3b h4 h5
  go_enter Tryz.func185, Tryz.ntmps185
  go_wp2_with (first | (go_at_call 113; refine (HC _).mono ?_; rintro e w1 ⟨rfl, hF1⟩; have hz1 := hF1.size; (try simp at hz1); (try (have hz1_0 : w.heap.size < w1.heap.size := (by omega))); have hc1 := hF1.cells; have hf1 := hF1.froz) | (go_at_call 159; refine (HS _).mono ?_; rintro e w2 ⟨rfl, hF2⟩; have hz2 := hF2.size; (try simp at hz2); (try (have hz2_0 : w.heap.size < w2.heap.size := (by omega))); have hc2 := hF2.cells; have hf2 := hF2.froz) | (go_at_call 208; refine (HL _).mono ?_; rintro e w3 ⟨rfl, hF3⟩; have hz3 := hF3.size; (try simp at hz3); (try (have hz3_0 : w.heap.size < w3.heap.size := (by omega))); have hc3 := hF3.cells; have hf3 := hF3.froz))
  go_ret
  exact ⟨rfl, by (repeat (with_reducible first | exact Fr.refl _ | assumption | refine Fr.alloc ?_ _ | refine Fr.drew ?_ | refine Fr.drewN ?_ _ | refine Fr.set ?_ (by first | (simp; done) | (simp; omega)) _ | refine Fr.trans ?_ (by assumption)))⟩
theorem ent_ok_tttt (ix sub acc : Int) (mp lim : Bool) (t1 n1 : Int) (b1 : ByteArray) (t2 n2 : Int) (b2 : ByteArray) (t3 n3 : Int) (b3 : ByteArray) (k : Int) (num lm : Bool) (HC : ∀ w, Calls Tryz.prog 113 #[.agg #[.int .i64 t3, .int .u64 n3, .string b3]] w fun e w' => e = .returned (.int .i64 0) ∧ Fr w w')
    (HS : ∀ w, Calls Tryz.prog 159 #[.int .i64 t3] w fun e w' => e = .returned (.tuple #[.int .i64 (szOf t3), .bool num]) ∧ Fr w w')
    (HL : ∀ w, Calls Tryz.prog 208 #[.agg #[.int .u16 ix, .int .u8 sub, .int .i64 acc, .bool mp, .bool lim, .int .i64 t1, .int .u64 n1, .string b1, .int .i64 t2, .int .u64 n2, .string b2, .int .i64 t3, .int .u64 n3, .string b3], .bool num] w fun e w' => e = .returned (.bool lm) ∧ Fr w w') (h1 : ¬ acc < 0) (h2 : ¬ 3 < acc) (h3 : mp = true) (h3b : num = true) (h4 : lim = true) (h5 : lm = true) (w : World) :
    Calls Tryz.prog 185 #[.agg #[.int .u16 ix, .int .u8 sub, .int .i64 acc, .bool mp, .bool lim, .int .i64 t1, .int .u64 n1, .string b1, .int .i64 t2, .int .u64 n2, .string b2, .int .i64 t3, .int .u64 n3, .string b3]] w fun e w' => e = .returned (.int .i64 0) ∧ Fr w w' := by
  subst h3 h3b h4 h5
  go_enter Tryz.func185, Tryz.ntmps185
  go_wp2_with (first | (go_at_call 113; refine (HC _).mono ?_; rintro e w1 ⟨rfl, hF1⟩; have hz1 := hF1.size; (try simp at hz1); (try (have hz1_0 : w.heap.size < w1.heap.size := (by omega))); have hc1 := hF1.cells; have hf1 := hF1.froz) | (go_at_call 159; refine (HS _).mono ?_; rintro e w2 ⟨rfl, hF2⟩; have hz2 := hF2.size; (try simp at hz2); (try (have hz2_0 : w.heap.size < w2.heap.size := (by omega))); have hc2 := hF2.cells; have hf2 := hF2.froz) | (go_at_call 208; refine (HL _).mono ?_; rintro e w3 ⟨rfl, hF3⟩; have hz3 := hF3.size; (try simp at hz3); (try (have hz3_0 : w.heap.size < w3.heap.size := (by omega))); have hc3 := hF3.cells; have hf3 := hF3.froz))
  go_ret
  exact ⟨rfl, by (repeat (with_reducible first | exact Fr.refl _ | assumption | refine Fr.alloc ?_ _ | refine Fr.drew ?_ | refine Fr.drewN ?_ _ | refine Fr.set ?_ (by first | (simp; done) | (simp; omega)) _ | refine Fr.trans ?_ (by assumption)))⟩
theorem ent_lim (ix sub acc : Int) (mp lim : Bool) (t1 n1 : Int) (b1 : ByteArray) (t2 n2 : Int) (b2 : ByteArray) (t3 n3 : Int) (b3 : ByteArray) (num lm : Bool) (HC : ∀ w, Calls Tryz.prog 113 #[.agg #[.int .i64 t3, .int .u64 n3, .string b3]] w fun e w' => e = .returned (.int .i64 0) ∧ Fr w w')
    (HS : ∀ w, Calls Tryz.prog 159 #[.int .i64 t3] w fun e w' => e = .returned (.tuple #[.int .i64 (szOf t3), .bool num]) ∧ Fr w w')
    (HL : ∀ w, Calls Tryz.prog 208 #[.agg #[.int .u16 ix, .int .u8 sub, .int .i64 acc, .bool mp, .bool lim, .int .i64 t1, .int .u64 n1, .string b1, .int .i64 t2, .int .u64 n2, .string b2, .int .i64 t3, .int .u64 n3, .string b3], .bool num] w fun e w' => e = .returned (.bool lm) ∧ Fr w w') (c1 : ¬ acc < 0) (c2 : ¬ 3 < acc) (h3 : mp = false ∨ num = true) (h4 : lim = true) (h5 : lm = false) (w : World) :
    Calls Tryz.prog 185 #[.agg #[.int .u16 ix, .int .u8 sub, .int .i64 acc, .bool mp, .bool lim, .int .i64 t1, .int .u64 n1, .string b1, .int .i64 t2, .int .u64 n2, .string b2, .int .i64 t3, .int .u64 n3, .string b3]] w fun e w' => e = .returned (.int .i64 1) ∧ Fr w w' := by
  by_cases a : mp = false
  · by_cases b : num = false
    · exact ent_lim_ff ix sub acc mp lim t1 n1 b1 t2 n2 b2 t3 n3 b3 0 num lm HC HS HL c1 c2 a b h4 h5 w
    · exact ent_lim_ft ix sub acc mp lim t1 n1 b1 t2 n2 b2 t3 n3 b3 0 num lm HC HS HL c1 c2 a (by simpa using b) h4 h5 w
  · exact ent_lim_tt ix sub acc mp lim t1 n1 b1 t2 n2 b2 t3 n3 b3 0 num lm HC HS HL c1 c2 (by simpa using a) (h3.resolve_left a) h4 h5 w
theorem ent_ok (ix sub acc : Int) (mp lim : Bool) (t1 n1 : Int) (b1 : ByteArray) (t2 n2 : Int) (b2 : ByteArray) (t3 n3 : Int) (b3 : ByteArray) (num lm : Bool) (HC : ∀ w, Calls Tryz.prog 113 #[.agg #[.int .i64 t3, .int .u64 n3, .string b3]] w fun e w' => e = .returned (.int .i64 0) ∧ Fr w w')
    (HS : ∀ w, Calls Tryz.prog 159 #[.int .i64 t3] w fun e w' => e = .returned (.tuple #[.int .i64 (szOf t3), .bool num]) ∧ Fr w w')
    (HL : ∀ w, Calls Tryz.prog 208 #[.agg #[.int .u16 ix, .int .u8 sub, .int .i64 acc, .bool mp, .bool lim, .int .i64 t1, .int .u64 n1, .string b1, .int .i64 t2, .int .u64 n2, .string b2, .int .i64 t3, .int .u64 n3, .string b3], .bool num] w fun e w' => e = .returned (.bool lm) ∧ Fr w w') (c1 : ¬ acc < 0) (c2 : ¬ 3 < acc) (h3 : mp = false ∨ num = true) (h4 : lim = false ∨ lm = true) (w : World) :
    Calls Tryz.prog 185 #[.agg #[.int .u16 ix, .int .u8 sub, .int .i64 acc, .bool mp, .bool lim, .int .i64 t1, .int .u64 n1, .string b1, .int .i64 t2, .int .u64 n2, .string b2, .int .i64 t3, .int .u64 n3, .string b3]] w fun e w' => e = .returned (.int .i64 0) ∧ Fr w w' := by
  by_cases a : mp = false
  · by_cases b : num = false
    · have p1 := a; have p2 := b
      by_cases d : lim = false
      · by_cases f : lm = false
        · exact ent_ok_ffff ix sub acc mp lim t1 n1 b1 t2 n2 b2 t3 n3 b3 0 num lm HC HS HL c1 c2 p1 p2 d f w
        · exact ent_ok_ffft ix sub acc mp lim t1 n1 b1 t2 n2 b2 t3 n3 b3 0 num lm HC HS HL c1 c2 p1 p2 d (by simpa using f) w
      · exact ent_ok_fftt ix sub acc mp lim t1 n1 b1 t2 n2 b2 t3 n3 b3 0 num lm HC HS HL c1 c2 p1 p2 (by simpa using d) (h4.resolve_left d) w
    · have p1 := a; have p2 : num = true := by simpa using b
      by_cases d : lim = false
      · by_cases f : lm = false
        · exact ent_ok_ftff ix sub acc mp lim t1 n1 b1 t2 n2 b2 t3 n3 b3 0 num lm HC HS HL c1 c2 p1 p2 d f w
        · exact ent_ok_ftft ix sub acc mp lim t1 n1 b1 t2 n2 b2 t3 n3 b3 0 num lm HC HS HL c1 c2 p1 p2 d (by simpa using f) w
      · exact ent_ok_fttt ix sub acc mp lim t1 n1 b1 t2 n2 b2 t3 n3 b3 0 num lm HC HS HL c1 c2 p1 p2 (by simpa using d) (h4.resolve_left d) w
  · have p1 : mp = true := by simpa using a
    have p2 := h3.resolve_left a
    by_cases d : lim = false
    · by_cases f : lm = false
      · exact ent_ok_ttff ix sub acc mp lim t1 n1 b1 t2 n2 b2 t3 n3 b3 0 num lm HC HS HL c1 c2 p1 p2 d f w
      · exact ent_ok_ttft ix sub acc mp lim t1 n1 b1 t2 n2 b2 t3 n3 b3 0 num lm HC HS HL c1 c2 p1 p2 d (by simpa using f) w
    · exact ent_ok_tttt ix sub acc mp lim t1 n1 b1 t2 n2 b2 t3 n3 b3 0 num lm HC HS HL c1 c2 p1 p2 (by simpa using d) (h4.resolve_left d) w

/-- od.entry: what is wrong with an entry. -/
theorem entry_any (e : E) (he : e.wf) (w : World) : Calls Tryz.prog 185 #[e.agg] w fun r w' => r = .returned (.int .i64 (entE e)) ∧ Fr w w' := by
  have HC := Check_any e.df he.2.2.2.2
  have HS := tsize_any e.df.t
  have HL := limits_any e he (decide (0 < szOf e.df.t))
  obtain ⟨ix, sub, acc, mp, lim, ⟨t1, n1, b1⟩, ⟨t2, n2, b2⟩, ⟨t3, n3, b3⟩⟩ := e
  unfold entE limE E.agg at *
  dsimp only at *
  generalize hnum : decide (0 < szOf t3) = num at *
  generalize hlm : (num && decide (withinV ⟨t1, n1, b1⟩ ⟨t2, n2, b2⟩ ⟨t3, n3, b3⟩ = 0)) = lm at *
  have hn : ¬ 0 < szOf t3 ↔ num = false := by rw [← hnum]; simp
  by_cases ck : chkV ⟨t3, n3, b3⟩ = 0
  · rw [if_neg (by simp [ck])]
    rw [ck] at HC
    by_cases c1 : acc < 0
    · rw [if_pos (.inl c1)]; exact ent_neg ix sub acc mp lim t1 n1 b1 t2 n2 b2 t3 n3 b3 0 num lm HC HS HL c1 w
    by_cases c2 : 3 < acc
    · rw [if_pos (.inr (.inl c2))]; exact ent_big ix sub acc mp lim t1 n1 b1 t2 n2 b2 t3 n3 b3 0 num lm HC HS HL c1 c2 w
    by_cases c3 : mp = true ∧ num = false
    · rw [if_pos (.inr (.inr (.inl ⟨c3.1, hn.2 c3.2⟩)))]; exact ent_map ix sub acc mp lim t1 n1 b1 t2 n2 b2 t3 n3 b3 0 num lm HC HS HL c1 c2 c3.1 c3.2 w
    have c3' : mp = false ∨ num = true := by cases mp <;> cases num <;> simp_all
    by_cases c4 : lim = true ∧ lm = false
    · rw [if_pos (.inr (.inr (.inr c4)))]; exact ent_lim ix sub acc mp lim t1 n1 b1 t2 n2 b2 t3 n3 b3 num lm HC HS HL c1 c2 c3' c4.1 c4.2 w
    have c4' : lim = false ∨ lm = true := by cases lim <;> cases lm <;> simp_all
    rw [if_neg (fun h => by
      rcases h with h | h | h | h
      · exact c1 h
      · exact c2 h
      · exact c3 ⟨h.1, hn.1 h.2⟩
      · exact c4 h)]
    exact ent_ok ix sub acc mp lim t1 n1 b1 t2 n2 b2 t3 n3 b3 num lm HC HS HL c1 c2 c3' c4' w
  · rw [if_pos ck]
    exact ent_chk ix sub acc mp lim t1 n1 b1 t2 n2 b2 t3 n3 b3 _ num lm HC HS HL (bne_true ck) w

end Go.Proofs.YtmllpkpdfhniaaaGreat
