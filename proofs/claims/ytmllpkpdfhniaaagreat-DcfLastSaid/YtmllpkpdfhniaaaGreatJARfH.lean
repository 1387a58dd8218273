/- The document's types (ref07): Check of strings, Check. -/
import Derived.Test.YtmllpkpdfhniaaaGreatJARfG
import Derived.Test.YtmllpkpdfhniaaaGreatJATyB
set_option linter.unusedVariables false
set_option linter.unusedSimpArgs false
namespace Go.Proofs.YtmllpkpdfhniaaaGreat
open Go.RowKit

theorem badT_false {b : ByteArray} (h : ∀ j (hj : j < b.size), badU b[j] = false) : badT b = false := by
  unfold badT
  rw [List.any_eq_false]
  intro x hx
  obtain ⟨j, hj, rfl⟩ := List.getElem_of_mem hx
  have := h j (by simpa using hj)
  rw [Bool.not_eq_true, Array.getElem_toList]
  exact this
theorem badT_true {b : ByteArray} {j : Nat} (hj : j < b.size) (h : badU b[j] = true) : badT b = true := by
  unfold badT
  rw [List.any_eq_true]
  exact ⟨b[j], by rw [Array.mem_toList_iff]; exact Array.getElem_mem _, h⟩

section
variable (t n : Int) (b : ByteArray)
theorem rck_none (HI : ∀ w, Calls Tryz.prog 172 #[.int .i64 t] w fun e w' => e = .returned (.bool false) ∧ Fr w w') (w : World) :
    Calls Tryz.prog 115 #[.agg #[.int .i64 t, .int .u64 n, .string b]] w fun e w' => e = .returned (.int .i64 1) ∧ Fr w w' := by
  go_enter Tryz.func115, Tryz.ntmps115
  go_wp2_with (first | (go_at_call 172; refine (HI _).mono ?_; rintro e w1 ⟨rfl, hF1⟩; have hz1 := hF1.size; (try simp at hz1); (try (have hz1_0 : w.heap.size < w1.heap.size := (by omega))); have hc1 := hF1.cells; have hf1 := hF1.froz; have hg1_0 : ∀ o, w1.frozen? ⟨w.heap.size, o, none⟩ = false := (by intro o; rw [hf1 _ _ (by first | (simp; done) | (simp; omega) | omega)]; (first | (simp; done) | (simp [*]; done) | go_simp)); have hk1_0 : w1.cell? ⟨w.heap.size, 0, none⟩ = some (.int .i64 t) := (by rw [hc1 _ _ (by first | (simp; done) | (simp; omega) | omega)]; (first | (simp; done) | (simp [*]; done) | go_simp)); have hk1_1 : w1.cell? ⟨w.heap.size, 1, none⟩ = some (.int .u64 n) := (by rw [hc1 _ _ (by first | (simp; done) | (simp; omega) | omega)]; (first | (simp; done) | (simp [*]; done) | go_simp)); have hk1_2 : w1.cell? ⟨w.heap.size, 2, none⟩ = some (.string b) := (by rw [hc1 _ _ (by first | (simp; done) | (simp; omega) | omega)]; (first | (simp; done) | (simp [*]; done) | go_simp))) | fail)
  go_ret
  exact ⟨rfl, by (repeat (with_reducible first | exact Fr.refl _ | assumption | refine Fr.alloc ?_ _ | refine Fr.drew ?_ | refine Fr.drewN ?_ _ | refine Fr.set ?_ (by first | (simp; done) | (simp; omega)) _ | refine Fr.trans ?_ (by assumption)))⟩
variable (HI : ∀ w, Calls Tryz.prog 172 #[.int .i64 t] w fun e w' => e = .returned (.bool true) ∧ Fr w w') (HS : ∀ w, Calls Tryz.prog 104 #[.int .i64 t] w fun e w' => e = .returned (.int .i64 0) ∧ Fr w w')
include HI HS
theorem rck_long (hb : (65536 : Int) < b.size) (w : World) : Calls Tryz.prog 115 #[.agg #[.int .i64 t, .int .u64 n, .string b]] w fun e w' => e = .returned (.int .i64 2) ∧ Fr w w' := by
  go_enter Tryz.func115, Tryz.ntmps115
  go_wp2_with (first | (go_at_call 172; refine (HI _).mono ?_; rintro e w1 ⟨rfl, hF1⟩; have hz1 := hF1.size; (try simp at hz1); (try (have hz1_0 : w.heap.size < w1.heap.size := (by omega))); have hc1 := hF1.cells; have hf1 := hF1.froz; have hg1_0 : ∀ o, w1.frozen? ⟨w.heap.size, o, none⟩ = false := (by intro o; rw [hf1 _ _ (by first | (simp; done) | (simp; omega) | omega)]; (first | (simp; done) | (simp [*]; done) | go_simp)); have hk1_0 : w1.cell? ⟨w.heap.size, 0, none⟩ = some (.int .i64 t) := (by rw [hc1 _ _ (by first | (simp; done) | (simp; omega) | omega)]; (first | (simp; done) | (simp [*]; done) | go_simp)); have hk1_1 : w1.cell? ⟨w.heap.size, 1, none⟩ = some (.int .u64 n) := (by rw [hc1 _ _ (by first | (simp; done) | (simp; omega) | omega)]; (first | (simp; done) | (simp [*]; done) | go_simp)); have hk1_2 : w1.cell? ⟨w.heap.size, 2, none⟩ = some (.string b) := (by rw [hc1 _ _ (by first | (simp; done) | (simp; omega) | omega)]; (first | (simp; done) | (simp [*]; done) | go_simp))) | (go_at_call 104; refine (HS _).mono ?_; rintro e w2 ⟨rfl, hF2⟩; have hz2 := hF2.size; (try simp at hz2); (try (have hz2_0 : w.heap.size < w2.heap.size := (by omega))); have hc2 := hF2.cells; have hf2 := hF2.froz; have hg2_0 : ∀ o, w2.frozen? ⟨w.heap.size, o, none⟩ = false := (by intro o; rw [hf2 _ _ (by first | (simp; done) | (simp; omega) | omega)]; (first | (simp; done) | (simp [*]; done) | go_simp)); have hk2_0 : w2.cell? ⟨w.heap.size, 0, none⟩ = some (.int .i64 t) := (by rw [hc2 _ _ (by first | (simp; done) | (simp; omega) | omega)]; (first | (simp; done) | (simp [*]; done) | go_simp)); have hk2_1 : w2.cell? ⟨w.heap.size, 1, none⟩ = some (.int .u64 n) := (by rw [hc2 _ _ (by first | (simp; done) | (simp; omega) | omega)]; (first | (simp; done) | (simp [*]; done) | go_simp)); have hk2_2 : w2.cell? ⟨w.heap.size, 2, none⟩ = some (.string b) := (by rw [hc2 _ _ (by first | (simp; done) | (simp; omega) | omega)]; (first | (simp; done) | (simp [*]; done) | go_simp))) | fail)
  go_ret
  exact ⟨rfl, by (repeat (with_reducible first | exact Fr.refl _ | assumption | refine Fr.alloc ?_ _ | refine Fr.drew ?_ | refine Fr.drewN ?_ _ | refine Fr.set ?_ (by first | (simp; done) | (simp; omega)) _ | refine Fr.trans ?_ (by assumption)))⟩
theorem rck_bytes (hb : ¬ (65536 : Int) < b.size) (h9 : (t == 9) = false) (w : World) : Calls Tryz.prog 115 #[.agg #[.int .i64 t, .int .u64 n, .string b]] w fun e w' => e = .returned (.int .i64 0) ∧ Fr w w' := by
  go_enter Tryz.func115, Tryz.ntmps115
  go_wp2_with (first | (go_at_call 172; refine (HI _).mono ?_; rintro e w1 ⟨rfl, hF1⟩; have hz1 := hF1.size; (try simp at hz1); (try (have hz1_0 : w.heap.size < w1.heap.size := (by omega))); have hc1 := hF1.cells; have hf1 := hF1.froz; have hg1_0 : ∀ o, w1.frozen? ⟨w.heap.size, o, none⟩ = false := (by intro o; rw [hf1 _ _ (by first | (simp; done) | (simp; omega) | omega)]; (first | (simp; done) | (simp [*]; done) | go_simp)); have hk1_0 : w1.cell? ⟨w.heap.size, 0, none⟩ = some (.int .i64 t) := (by rw [hc1 _ _ (by first | (simp; done) | (simp; omega) | omega)]; (first | (simp; done) | (simp [*]; done) | go_simp)); have hk1_1 : w1.cell? ⟨w.heap.size, 1, none⟩ = some (.int .u64 n) := (by rw [hc1 _ _ (by first | (simp; done) | (simp; omega) | omega)]; (first | (simp; done) | (simp [*]; done) | go_simp)); have hk1_2 : w1.cell? ⟨w.heap.size, 2, none⟩ = some (.string b) := (by rw [hc1 _ _ (by first | (simp; done) | (simp; omega) | omega)]; (first | (simp; done) | (simp [*]; done) | go_simp))) | (go_at_call 104; refine (HS _).mono ?_; rintro e w2 ⟨rfl, hF2⟩; have hz2 := hF2.size; (try simp at hz2); (try (have hz2_0 : w.heap.size < w2.heap.size := (by omega))); have hc2 := hF2.cells; have hf2 := hF2.froz; have hg2_0 : ∀ o, w2.frozen? ⟨w.heap.size, o, none⟩ = false := (by intro o; rw [hf2 _ _ (by first | (simp; done) | (simp; omega) | omega)]; (first | (simp; done) | (simp [*]; done) | go_simp)); have hk2_0 : w2.cell? ⟨w.heap.size, 0, none⟩ = some (.int .i64 t) := (by rw [hc2 _ _ (by first | (simp; done) | (simp; omega) | omega)]; (first | (simp; done) | (simp [*]; done) | go_simp)); have hk2_1 : w2.cell? ⟨w.heap.size, 1, none⟩ = some (.int .u64 n) := (by rw [hc2 _ _ (by first | (simp; done) | (simp; omega) | omega)]; (first | (simp; done) | (simp [*]; done) | go_simp)); have hk2_2 : w2.cell? ⟨w.heap.size, 2, none⟩ = some (.string b) := (by rw [hc2 _ _ (by first | (simp; done) | (simp; omega) | omega)]; (first | (simp; done) | (simp [*]; done) | go_simp))) | fail)
  refine wp_loop_rounds 1 ?_
  rw [rounds_succ]
  by_cases h0 : 0 < b.size
  · go_wp2
    go_ret
    exact ⟨rfl, by (repeat (with_reducible first | exact Fr.refl _ | assumption | refine Fr.alloc ?_ _ | refine Fr.drew ?_ | refine Fr.drewN ?_ _ | refine Fr.set ?_ (by first | (simp; done) | (simp; omega)) _ | refine Fr.trans ?_ (by assumption)))⟩
  · go_wp2
    go_ret
    exact ⟨rfl, by (repeat (with_reducible first | exact Fr.refl _ | assumption | refine Fr.alloc ?_ _ | refine Fr.drew ?_ | refine Fr.drewN ?_ _ | refine Fr.set ?_ (by first | (simp; done) | (simp; omega)) _ | refine Fr.trans ?_ (by assumption)))⟩
end
set_option maxHeartbeats 1000000 in
theorem rck_text (n : Int) (b : ByteArray) (r : Int) (HI : ∀ w, Calls Tryz.prog 172 #[.int .i64 9] w fun e w' => e = .returned (.bool true) ∧ Fr w w') (HS : ∀ w, Calls Tryz.prog 104 #[.int .i64 9] w fun e w' => e = .returned (.int .i64 0) ∧ Fr w w')
    (hb : ¬ (65536 : Int) < b.size) (hr1 : ∀ j (hj : j < b.size), badU b[j] = true → r = 1) (hr0 : (∀ j (hj : j < b.size), badU b[j] = false) → r = 0) (w : World) :
    Calls Tryz.prog 115 #[.agg #[.int .i64 9, .int .u64 n, .string b]] w fun e w' => e = .returned (.int .i64 r) ∧ Fr w w' := by
  have HR1 := Lib.hid hr1
  have HR0 := Lib.hid hr0
  clear hr1 hr0
  go_enter Tryz.func115, Tryz.ntmps115
  go_wp2_with (first | (go_at_call 172; refine (HI _).mono ?_; rintro e w1 ⟨rfl, hF1⟩; have hz1 := hF1.size; (try simp at hz1); (try (have hz1_0 : w.heap.size < w1.heap.size := (by omega))); have hc1 := hF1.cells; have hf1 := hF1.froz; have hg1_0 : ∀ o, w1.frozen? ⟨w.heap.size, o, none⟩ = false := (by intro o; rw [hf1 _ _ (by first | (simp; done) | (simp; omega) | omega)]; (first | (simp; done) | (simp [*]; done) | go_simp)); have hk1_0 : w1.cell? ⟨w.heap.size, 0, none⟩ = some (.int .i64 9) := (by rw [hc1 _ _ (by first | (simp; done) | (simp; omega) | omega)]; (first | (simp; done) | (simp [*]; done) | go_simp)); have hk1_1 : w1.cell? ⟨w.heap.size, 1, none⟩ = some (.int .u64 n) := (by rw [hc1 _ _ (by first | (simp; done) | (simp; omega) | omega)]; (first | (simp; done) | (simp [*]; done) | go_simp)); have hk1_2 : w1.cell? ⟨w.heap.size, 2, none⟩ = some (.string b) := (by rw [hc1 _ _ (by first | (simp; done) | (simp; omega) | omega)]; (first | (simp; done) | (simp [*]; done) | go_simp))) | (go_at_call 104; refine (HS _).mono ?_; rintro e w2 ⟨rfl, hF2⟩; have hz2 := hF2.size; (try simp at hz2); (try (have hz2_0 : w.heap.size < w2.heap.size := (by omega))); have hc2 := hF2.cells; have hf2 := hF2.froz; have hg2_0 : ∀ o, w2.frozen? ⟨w.heap.size, o, none⟩ = false := (by intro o; rw [hf2 _ _ (by first | (simp; done) | (simp; omega) | omega)]; (first | (simp; done) | (simp [*]; done) | go_simp)); have hk2_0 : w2.cell? ⟨w.heap.size, 0, none⟩ = some (.int .i64 9) := (by rw [hc2 _ _ (by first | (simp; done) | (simp; omega) | omega)]; (first | (simp; done) | (simp [*]; done) | go_simp)); have hk2_1 : w2.cell? ⟨w.heap.size, 1, none⟩ = some (.int .u64 n) := (by rw [hc2 _ _ (by first | (simp; done) | (simp; omega) | omega)]; (first | (simp; done) | (simp [*]; done) | go_simp)); have hk2_2 : w2.cell? ⟨w.heap.size, 2, none⟩ = some (.string b) := (by rw [hc2 _ _ (by first | (simp; done) | (simp; omega) | omega)]; (first | (simp; done) | (simp [*]; done) | go_simp))) | fail)
  go_loop [4] (fun i => ∃ k : Nat, k ≤ b.size ∧ i = .int .i64 k ∧ Hid (∀ j (hj : j < b.size), j < k → badU b[j] = false)) (fun i => b.size - (intOf i).toNat)
  case atStart => exact ⟨0, Nat.zero_le _, rfl, Lib.hid fun j _ h => absurd h (Nat.not_lt_zero _)⟩
  case round =>
    obtain ⟨k, hk, rfl, hz⟩ := hrel
    by_cases hlt : k < b.size
    · have hx := HR1.out k hlt
      have hy : ∀ j (hj : j < b.size), badU b[k] = false → j < k + 1 → badU b[j] = false := fun j hj h0 hjk => by
        by_cases hjk' : j = k
        · subst hjk'; exact h0
        · exact hz.out j hj (by omega)
      have HY := Lib.hid hy
      have HX := Lib.hid hx
      clear hx hy
      by_cases h1 : (b[k].toNat : Int) < 32
      · go_wp2
        go_ret
        exact ⟨ret_int (HX.out (by unfold badU; simp; omega)).symm, by (repeat (with_reducible first | exact Fr.refl _ | assumption | refine Fr.alloc ?_ _ | refine Fr.drew ?_ | refine Fr.drewN ?_ _ | refine Fr.set ?_ (by first | (simp; done) | (simp; omega)) _ | refine Fr.trans ?_ (by assumption)))⟩
      · by_cases h2 : (126 : Int) < (b[k].toNat : Int)
        · go_wp2
          go_ret
          exact ⟨ret_int (HX.out (by unfold badU; simp; omega)).symm, by (repeat (with_reducible first | exact Fr.refl _ | assumption | refine Fr.alloc ?_ _ | refine Fr.drew ?_ | refine Fr.drewN ?_ _ | refine Fr.set ?_ (by first | (simp; done) | (simp; omega)) _ | refine Fr.trans ?_ (by assumption)))⟩
        · go_wp2
          go_round
          case rel => exact ⟨k + 1, by omega, by go_num, Lib.hid fun j hj hjk => HY.out j hj (by unfold badU; simp; omega) hjk⟩
          case measure => simp [intOf]; omega
    · have hkl : k = b.size := by omega
      subst hkl
      have hz0 := HR0.out fun j hj => hz.out j hj hj
      subst hz0
      go_wp2
      go_ret
      exact ⟨rfl, by (repeat (with_reducible first | exact Fr.refl _ | assumption | refine Fr.alloc ?_ _ | refine Fr.drew ?_ | refine Fr.drewN ?_ _ | refine Fr.set ?_ (by first | (simp; done) | (simp; omega)) _ | refine Fr.trans ?_ (by assumption)))⟩

/-- ref07's Check. -/
theorem rcheck_any (v : V) (hw : v.wf) (w : World) : Calls Tryz.prog 115 #[v.agg] w fun e w' => e = .returned (.int .i64 (chkV v)) ∧ Fr w w' := by
  obtain ⟨t, n, b⟩ := v
  obtain ⟨h0, hn⟩ := hw
  dsimp only at h0 hn
  have HI := ris_any t
  have HS := rsize_any t
  unfold chkV V.agg
  dsimp only
  by_cases hi : isOf t = false
  · rw [if_pos hi]
    rw [hi] at HI
    exact rck_none t n b HI w
  rw [if_neg hi]
  have hi' : isOf t = true := by simpa using hi
  rw [hi'] at HI
  by_cases hs : 0 < szOf t
  · have hs0 : ¬ (szOf t = 0 ∧ 65536 < (b.size : Int)) := by omega
    rw [if_neg hs0]
    have h9 : t ≠ 9 := by rintro rfl; exact absurd hs (by decide)
    have hl := fun w => low_any n (szOf t).toNat h0 hn (by have := szOf_le t; omega) w
    have hcast : (((szOf t).toNat : Nat) : Int) = szOf t := by omega
    have hW := fun w v (hR : RdB w v (leB n (szOf t).toNat)) => rwide_any t (leB n (szOf t).toNat) hs (leB_len _ _) v w hR
    have hf := wide_fits t n hs h0 hn
    have hs' : (0 : Int) < ((szOf t).toNat : Nat) := by omega
    rw [← hcast] at HS
    cases hfv : fitsV (szOf t) (sgOf t) n
    · rw [if_pos (.inl ⟨hs, rfl⟩)]
      exact rck_wide t n b _ _ hs' (bne_true (fun h => by rw [hf] at h; rw [h] at hfv; cases hfv)) HI HS hl hW w
    · have hN := hf.2 hfv
      by_cases h1 : t = 1
      · by_cases hn1 : 1 < n
        · rw [if_pos (.inr ⟨h1, hn1⟩)]
          exact rck_b1 t n b _ _ hs' (bne_false hN) (beq_true h1) (by simpa using hn1) HI HS hl hW w
        · rw [if_neg (by simp; intro _; omega), if_neg (by simp [h9])]
          exact rck_b0 t n b _ _ hs' (bne_false hN) (beq_true h1) (by simpa using hn1) HI HS hl hW w
      · rw [if_neg (by simp [h1]), if_neg (by simp [h9])]
        exact rck_ok t n b _ _ hs' (bne_false hN) (beq_false h1) HI HS hl hW w
  · have hs0 : szOf t = 0 := by have := szOf_nonneg t; omega
    rw [hs0] at HS
    by_cases hb : 65536 < (b.size : Int)
    · rw [if_pos ⟨hs0, hb⟩]; exact rck_long t n b HI HS hb w
    · have h1 : t ≠ 1 := by rintro rfl; exact absurd hs0 (by decide)
      rw [if_neg (by omega), if_neg (fun h => h.elim (fun h => by omega) (fun h => h1 h.1))]
      by_cases h9 : t = 9
      · subst h9
        refine rck_text n b _ HI HS hb ?_ ?_ w
        · intro j hj hbad
          rw [if_pos ⟨rfl, badT_true hj hbad⟩]
        · intro hall
          rw [if_neg (by rw [badT_false hall]; simp)]
      · rw [if_neg (by simp [h9])]; exact rck_bytes t n b HI HS hb (beq_false h9) w

end Go.Proofs.YtmllpkpdfhniaaaGreat
