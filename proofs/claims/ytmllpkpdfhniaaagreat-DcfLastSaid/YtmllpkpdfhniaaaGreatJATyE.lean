/- The program's types.Decode, whole: bytes that are read as a value of a type. cmp.Compare at the kinds that the program uses; the program's types.Order. -/
import Derived.Test.YtmllpkpdfhniaaaGreatJATyD
set_option linter.unusedVariables false
set_option linter.unusedSimpArgs false
namespace Go.Proofs.YtmllpkpdfhniaaaGreat
open Go.RowKit

/-- 'string(b)'. -/
theorem conv_rd {W : World} {A : Option Addr} {n c : Nat} {l : List UInt8} (h : Rd W 1 (.slice A n c) n (bcs l)) : (convert 36 9 (.slice A n c)).run Tryz.prog W = .ok (.string ⟨l.toArray⟩) W := by
  unfold Rd at h
  obtain ⟨hl, A', c', hv, hn, hc, h⟩ := h
  simp only [Value.slice.injEq, true_and] at hv
  obtain ⟨rfl, rfl⟩ := hv
  rw [bcs_len, Nat.mul_one] at hl
  have hs : strOfNums (l.map fun x => (x.toNat : Int)) = ⟨l.toArray⟩ := by
    unfold strOfNums
    rw [List.map_map]
    congr 2
    rw [List.map_congr_left (g := id) (fun x _ => by simp [Function.comp])]
    simp
  rcases h with h0 | ⟨b, o, rfl, hb, hh⟩
  · subst h0
    have hl0 : l = [] := List.eq_nil_of_length_eq_zero hl
    subst hl0
    cases A with
    | none => exact run_convert_bytes_nil W 36 5 Tryz.underlying36 Tryz.underlying5 0 c _ Tryz.underlying9
    | some a =>
      rw [run_convert_bytes_string W _ _ 5 _ 0 c Tryz.underlying36 Tryz.underlying5 Tryz.underlying9, run_bytesToString W a 0 c [] (by simp [loadCells, loadCellsFrom])]
      rfl
  · rw [run_convert_bytes_arg W 36 5 Tryz.underlying36 Tryz.underlying5 b o n c (l.map fun x => (x.toNat : Int)) (by simpa using hl) (fun i hi => ?_) _ Tryz.underlying9, hs]
    rw [hh i _ (bcs_at l i (by omega))]
    simp [List.getD, hl, hi]

theorem decx_none (t : Int) (A : Option Addr) (n c : Nat) (h : isOf t = false) (w : World) :
    Calls Tryz.prog 193 #[.int .i64 t, .slice A n c] w fun e w' => RetV V.zero 1 w e w' := by
  have H := of_any t
  rw [h] at H
  clear h
  go_enter Tryz.func193, Tryz.ntmps193
  go_wp2_with (first | (go_at_call 154; refine (H _).mono ?_; rintro e w1 ⟨rfl, hF1⟩; have hz1 := hF1.size; (try simp at hz1); (try (have hz1_0 : w.heap.size < w1.heap.size := (by omega))); have hc1 := hF1.cells; have hf1 := hF1.froz; have hg1_0 : ∀ o, w1.frozen? ⟨w.heap.size, o, none⟩ = false := (by intro o; rw [hf1 _ _ (by first | (simp; done) | (simp; omega) | omega)]; (first | (simp; done) | (simp [*]; done) | go_simp)); have hk1_0 : w1.cell? ⟨w.heap.size, 0, none⟩ = some (.int .i64 0) := (by rw [hc1 _ _ (by first | (simp; done) | (simp; omega) | omega)]; (first | (simp; done) | (simp [*]; done) | go_simp)); have hk1_1 : w1.cell? ⟨w.heap.size, 1, none⟩ = some (.int .u64 0) := (by rw [hc1 _ _ (by first | (simp; done) | (simp; omega) | omega)]; (first | (simp; done) | (simp [*]; done) | go_simp)); have hk1_2 : w1.cell? ⟨w.heap.size, 2, none⟩ = some (.string ⟨#[]⟩) := (by rw [hc1 _ _ (by first | (simp; done) | (simp; omega) | omega)]; (first | (simp; done) | (simp [*]; done) | go_simp))))
  exact bodyPost_ret (v := .tuple #[.agg #[.int .i64 0, .int .u64 0, .string ⟨#[]⟩], .int .i64 1]) (by simp [*, results, Tryz.results193, go_sem]) rfl (RetV.mk' rfl rfl (by (repeat (with_reducible first | exact Fr.refl _ | assumption | refine Fr.alloc ?_ _ | refine Fr.drew ?_ | refine Fr.drewN ?_ _ | refine Fr.set ?_ (by first | (simp; done) | (simp; omega)) _ | refine Fr.trans ?_ (by assumption)))))
theorem decx_short (t : Int) (A : Option Addr) (n c : Nat) (h : isOf t = true) (hn : (n : Int) < szOf t) (w : World) :
    Calls Tryz.prog 193 #[.int .i64 t, .slice A n c] w fun e w' => RetV V.zero 3 w e w' := by
  have H := of_any t
  rw [h] at H
  clear h
  go_enter Tryz.func193, Tryz.ntmps193
  go_wp2_with (first | (go_at_call 154; refine (H _).mono ?_; rintro e w1 ⟨rfl, hF1⟩; have hz1 := hF1.size; (try simp at hz1); (try (have hz1_0 : w.heap.size < w1.heap.size := (by omega))); have hc1 := hF1.cells; have hf1 := hF1.froz; have hg1_0 : ∀ o, w1.frozen? ⟨w.heap.size, o, none⟩ = false := (by intro o; rw [hf1 _ _ (by first | (simp; done) | (simp; omega) | omega)]; (first | (simp; done) | (simp [*]; done) | go_simp)); have hk1_0 : w1.cell? ⟨w.heap.size, 0, none⟩ = some (.int .i64 0) := (by rw [hc1 _ _ (by first | (simp; done) | (simp; omega) | omega)]; (first | (simp; done) | (simp [*]; done) | go_simp)); have hk1_1 : w1.cell? ⟨w.heap.size, 1, none⟩ = some (.int .u64 0) := (by rw [hc1 _ _ (by first | (simp; done) | (simp; omega) | omega)]; (first | (simp; done) | (simp [*]; done) | go_simp)); have hk1_2 : w1.cell? ⟨w.heap.size, 2, none⟩ = some (.string ⟨#[]⟩) := (by rw [hc1 _ _ (by first | (simp; done) | (simp; omega) | omega)]; (first | (simp; done) | (simp [*]; done) | go_simp))))
  exact bodyPost_ret (v := .tuple #[.agg #[.int .i64 0, .int .u64 0, .string ⟨#[]⟩], .int .i64 3]) (by simp [*, results, Tryz.results193, go_sem]) rfl (RetV.mk' rfl rfl (by (repeat (with_reducible first | exact Fr.refl _ | assumption | refine Fr.alloc ?_ _ | refine Fr.drew ?_ | refine Fr.drewN ?_ _ | refine Fr.set ?_ (by first | (simp; done) | (simp; omega)) _ | refine Fr.trans ?_ (by assumption)))))
theorem decx_long (t : Int) (A : Option Addr) (n c : Nat) (h : isOf t = true) (hs : 0 < szOf t) (hn : szOf t < (n : Int)) (w : World) :
    Calls Tryz.prog 193 #[.int .i64 t, .slice A n c] w fun e w' => RetV V.zero 2 w e w' := by
  have H := of_any t
  rw [h] at H
  clear h
  go_enter Tryz.func193, Tryz.ntmps193
  go_wp2_with (first | (go_at_call 154; refine (H _).mono ?_; rintro e w1 ⟨rfl, hF1⟩; have hz1 := hF1.size; (try simp at hz1); (try (have hz1_0 : w.heap.size < w1.heap.size := (by omega))); have hc1 := hF1.cells; have hf1 := hF1.froz; have hg1_0 : ∀ o, w1.frozen? ⟨w.heap.size, o, none⟩ = false := (by intro o; rw [hf1 _ _ (by first | (simp; done) | (simp; omega) | omega)]; (first | (simp; done) | (simp [*]; done) | go_simp)); have hk1_0 : w1.cell? ⟨w.heap.size, 0, none⟩ = some (.int .i64 0) := (by rw [hc1 _ _ (by first | (simp; done) | (simp; omega) | omega)]; (first | (simp; done) | (simp [*]; done) | go_simp)); have hk1_1 : w1.cell? ⟨w.heap.size, 1, none⟩ = some (.int .u64 0) := (by rw [hc1 _ _ (by first | (simp; done) | (simp; omega) | omega)]; (first | (simp; done) | (simp [*]; done) | go_simp)); have hk1_2 : w1.cell? ⟨w.heap.size, 2, none⟩ = some (.string ⟨#[]⟩) := (by rw [hc1 _ _ (by first | (simp; done) | (simp; omega) | omega)]; (first | (simp; done) | (simp [*]; done) | go_simp))))
  exact bodyPost_ret (v := .tuple #[.agg #[.int .i64 0, .int .u64 0, .string ⟨#[]⟩], .int .i64 2]) (by simp [*, results, Tryz.results193, go_sem]) rfl (RetV.mk' rfl rfl (by (repeat (with_reducible first | exact Fr.refl _ | assumption | refine Fr.alloc ?_ _ | refine Fr.drew ?_ | refine Fr.drewN ?_ _ | refine Fr.set ?_ (by first | (simp; done) | (simp; omega)) _ | refine Fr.trans ?_ (by assumption)))))
theorem decx_many (t : Int) (A : Option Addr) (n c : Nat) (h : isOf t = true) (hs : szOf t = 0) (hn : 65536 < (n : Int)) (w : World) :
    Calls Tryz.prog 193 #[.int .i64 t, .slice A n c] w fun e w' => RetV V.zero 2 w e w' := by
  have H := of_any t
  rw [h, hs] at H
  clear h hs
  go_enter Tryz.func193, Tryz.ntmps193
  go_wp2_with (first | (go_at_call 154; refine (H _).mono ?_; rintro e w1 ⟨rfl, hF1⟩; have hz1 := hF1.size; (try simp at hz1); (try (have hz1_0 : w.heap.size < w1.heap.size := (by omega))); have hc1 := hF1.cells; have hf1 := hF1.froz; have hg1_0 : ∀ o, w1.frozen? ⟨w.heap.size, o, none⟩ = false := (by intro o; rw [hf1 _ _ (by first | (simp; done) | (simp; omega) | omega)]; (first | (simp; done) | (simp [*]; done) | go_simp)); have hk1_0 : w1.cell? ⟨w.heap.size, 0, none⟩ = some (.int .i64 0) := (by rw [hc1 _ _ (by first | (simp; done) | (simp; omega) | omega)]; (first | (simp; done) | (simp [*]; done) | go_simp)); have hk1_1 : w1.cell? ⟨w.heap.size, 1, none⟩ = some (.int .u64 0) := (by rw [hc1 _ _ (by first | (simp; done) | (simp; omega) | omega)]; (first | (simp; done) | (simp [*]; done) | go_simp)); have hk1_2 : w1.cell? ⟨w.heap.size, 2, none⟩ = some (.string ⟨#[]⟩) := (by rw [hc1 _ _ (by first | (simp; done) | (simp; omega) | omega)]; (first | (simp; done) | (simp [*]; done) | go_simp))))
  exact bodyPost_ret (v := .tuple #[.agg #[.int .i64 0, .int .u64 0, .string ⟨#[]⟩], .int .i64 2]) (by simp [*, results, Tryz.results193, go_sem]) rfl (RetV.mk' rfl rfl (by (repeat (with_reducible first | exact Fr.refl _ | assumption | refine Fr.alloc ?_ _ | refine Fr.drew ?_ | refine Fr.drewN ?_ _ | refine Fr.set ?_ (by first | (simp; done) | (simp; omega)) _ | refine Fr.trans ?_ (by assumption)))))

theorem decx_str (t : Int) (A : Option Addr) (n c : Nat) (l : List UInt8) (hi : isOf t = true) (hs : szOf t = 0) (hn : ¬ 65536 < (n : Int)) (w : World) (hR : Rd w 1 (.slice A n c) n (bcs l)) (k : Int)
    (HK : ∀ w, Calls Tryz.prog 153 #[.agg #[.int .i64 t, .int .u64 0, .string ⟨l.toArray⟩]] w fun e w' => e = .returned (.int .i64 k) ∧ Fr w w') :
    (k = 0 → Calls Tryz.prog 193 #[.int .i64 t, .slice A n c] w fun e w' => RetV ⟨t, 0, ⟨l.toArray⟩⟩ 0 w e w') ∧
    (k ≠ 0 → Calls Tryz.prog 193 #[.int .i64 t, .slice A n c] w fun e w' => RetV V.zero 8 w e w') := by
  have H := of_any t
  rw [hs, hi] at H
  clear hs hi
  refine ⟨fun hk => ?_, fun hk => ?_⟩
  · subst hk
    go_enter Tryz.func193, Tryz.ntmps193
    go_wp2_with (first | ((go_at_call 154; refine (H _).mono ?_; rintro e w1 ⟨rfl, hF1⟩; have hz1 := hF1.size; (try simp at hz1); (try (have hz1_0 : w.heap.size < w1.heap.size := (by omega))); have hc1 := hF1.cells; have hf1 := hF1.froz; have hg1_0 : ∀ o, w1.frozen? ⟨w.heap.size, o, none⟩ = false := (by intro o; rw [hf1 _ _ (by first | (simp; done) | (simp; omega) | omega)]; (first | (simp; done) | (simp [*]; done) | go_simp)); have hk1_0 : w1.cell? ⟨w.heap.size, 0, none⟩ = some (.int .i64 0) := (by rw [hc1 _ _ (by first | (simp; done) | (simp; omega) | omega)]; (first | (simp; done) | (simp [*]; done) | go_simp)); have hk1_1 : w1.cell? ⟨w.heap.size, 1, none⟩ = some (.int .u64 0) := (by rw [hc1 _ _ (by first | (simp; done) | (simp; omega) | omega)]; (first | (simp; done) | (simp [*]; done) | go_simp)); have hk1_2 : w1.cell? ⟨w.heap.size, 2, none⟩ = some (.string ⟨#[]⟩) := (by rw [hc1 _ _ (by first | (simp; done) | (simp; omega) | omega)]; (first | (simp; done) | (simp [*]; done) | go_simp))); have hcv := fun x y => conv_rd (W := (w1.alloc x).alloc y) ((hR.fr ((Fr.refl w).alloc _)).fr ((hF1.alloc x).alloc y))) | (go_at_call 153; refine (HK _).mono ?_; rintro e w2 ⟨rfl, hF2⟩; have hz2 := hF2.size; (try simp at hz2); (try (have hz2_0 : w.heap.size < w2.heap.size := (by omega))); (try (have hz2_1 : w1.heap.size < w2.heap.size := (by omega))); (try (have hz2_2 : w1.heap.size + 1 < w2.heap.size := (by omega))); have hc2 := hF2.cells; have hf2 := hF2.froz; have hg2_0 : ∀ o, w2.frozen? ⟨w.heap.size, o, none⟩ = false := (by intro o; rw [hf2 _ _ (by first | (simp; done) | (simp; omega) | omega)]; (first | (simp; done) | (simp [*]; done) | go_simp)); have hk2_0 : w2.cell? ⟨w.heap.size, 0, none⟩ = some (.int .i64 0) := (by rw [hc2 _ _ (by first | (simp; done) | (simp; omega) | omega)]; (first | (simp; done) | (simp [*]; done) | go_simp)); have hk2_1 : w2.cell? ⟨w.heap.size, 1, none⟩ = some (.int .u64 0) := (by rw [hc2 _ _ (by first | (simp; done) | (simp; omega) | omega)]; (first | (simp; done) | (simp [*]; done) | go_simp)); have hk2_2 : w2.cell? ⟨w.heap.size, 2, none⟩ = some (.string ⟨#[]⟩) := (by rw [hc2 _ _ (by first | (simp; done) | (simp; omega) | omega)]; (first | (simp; done) | (simp [*]; done) | go_simp)); have hg2_3 : ∀ o, w2.frozen? ⟨w1.heap.size + 1, o, none⟩ = false := (by intro o; rw [hf2 _ _ (by first | (simp; done) | (simp; omega) | omega)]; (first | (simp; done) | (simp [*]; done) | go_simp)); have hk2_3 : w2.cell? ⟨w1.heap.size + 1, 0, none⟩ = some (.int .i64 t) := (by rw [hc2 _ _ (by first | (simp; done) | (simp; omega) | omega)]; (first | (simp; done) | (simp [*]; done) | go_simp)); have hk2_4 : w2.cell? ⟨w1.heap.size + 1, 1, none⟩ = some (.int .u64 0) := (by rw [hc2 _ _ (by first | (simp; done) | (simp; omega) | omega)]; (first | (simp; done) | (simp [*]; done) | go_simp)); have hk2_5 : w2.cell? ⟨w1.heap.size + 1, 2, none⟩ = some (.string ⟨l.toArray⟩) := (by rw [hc2 _ _ (by first | (simp; done) | (simp; omega) | omega)]; (first | (simp; done) | (simp [*]; done) | go_simp))))
    exact bodyPost_ret (v := .tuple #[.agg #[.int .i64 t, .int .u64 0, .string ⟨l.toArray⟩], .int .i64 0]) (by simp [*, results, Tryz.results193, go_sem]) rfl (RetV.mk' (v := ⟨t, 0, ⟨l.toArray⟩⟩) rfl rfl (by (repeat (with_reducible first | exact Fr.refl _ | assumption | refine Fr.alloc ?_ _ | refine Fr.drew ?_ | refine Fr.drewN ?_ _ | refine Fr.set ?_ (by first | (simp; done) | (simp; omega)) _ | refine Fr.trans ?_ (by assumption)))))
  · have hk' := bne_true hk
    clear hk
    go_enter Tryz.func193, Tryz.ntmps193
    go_wp2_with (first | ((go_at_call 154; refine (H _).mono ?_; rintro e w1 ⟨rfl, hF1⟩; have hz1 := hF1.size; (try simp at hz1); (try (have hz1_0 : w.heap.size < w1.heap.size := (by omega))); have hc1 := hF1.cells; have hf1 := hF1.froz; have hg1_0 : ∀ o, w1.frozen? ⟨w.heap.size, o, none⟩ = false := (by intro o; rw [hf1 _ _ (by first | (simp; done) | (simp; omega) | omega)]; (first | (simp; done) | (simp [*]; done) | go_simp)); have hk1_0 : w1.cell? ⟨w.heap.size, 0, none⟩ = some (.int .i64 0) := (by rw [hc1 _ _ (by first | (simp; done) | (simp; omega) | omega)]; (first | (simp; done) | (simp [*]; done) | go_simp)); have hk1_1 : w1.cell? ⟨w.heap.size, 1, none⟩ = some (.int .u64 0) := (by rw [hc1 _ _ (by first | (simp; done) | (simp; omega) | omega)]; (first | (simp; done) | (simp [*]; done) | go_simp)); have hk1_2 : w1.cell? ⟨w.heap.size, 2, none⟩ = some (.string ⟨#[]⟩) := (by rw [hc1 _ _ (by first | (simp; done) | (simp; omega) | omega)]; (first | (simp; done) | (simp [*]; done) | go_simp))); have hcv := fun x y => conv_rd (W := (w1.alloc x).alloc y) ((hR.fr ((Fr.refl w).alloc _)).fr ((hF1.alloc x).alloc y))) | (go_at_call 153; refine (HK _).mono ?_; rintro e w2 ⟨rfl, hF2⟩; have hz2 := hF2.size; (try simp at hz2); (try (have hz2_0 : w.heap.size < w2.heap.size := (by omega))); (try (have hz2_1 : w1.heap.size < w2.heap.size := (by omega))); (try (have hz2_2 : w1.heap.size + 1 < w2.heap.size := (by omega))); have hc2 := hF2.cells; have hf2 := hF2.froz; have hg2_0 : ∀ o, w2.frozen? ⟨w.heap.size, o, none⟩ = false := (by intro o; rw [hf2 _ _ (by first | (simp; done) | (simp; omega) | omega)]; (first | (simp; done) | (simp [*]; done) | go_simp)); have hk2_0 : w2.cell? ⟨w.heap.size, 0, none⟩ = some (.int .i64 0) := (by rw [hc2 _ _ (by first | (simp; done) | (simp; omega) | omega)]; (first | (simp; done) | (simp [*]; done) | go_simp)); have hk2_1 : w2.cell? ⟨w.heap.size, 1, none⟩ = some (.int .u64 0) := (by rw [hc2 _ _ (by first | (simp; done) | (simp; omega) | omega)]; (first | (simp; done) | (simp [*]; done) | go_simp)); have hk2_2 : w2.cell? ⟨w.heap.size, 2, none⟩ = some (.string ⟨#[]⟩) := (by rw [hc2 _ _ (by first | (simp; done) | (simp; omega) | omega)]; (first | (simp; done) | (simp [*]; done) | go_simp)); have hg2_3 : ∀ o, w2.frozen? ⟨w1.heap.size + 1, o, none⟩ = false := (by intro o; rw [hf2 _ _ (by first | (simp; done) | (simp; omega) | omega)]; (first | (simp; done) | (simp [*]; done) | go_simp)); have hk2_3 : w2.cell? ⟨w1.heap.size + 1, 0, none⟩ = some (.int .i64 t) := (by rw [hc2 _ _ (by first | (simp; done) | (simp; omega) | omega)]; (first | (simp; done) | (simp [*]; done) | go_simp)); have hk2_4 : w2.cell? ⟨w1.heap.size + 1, 1, none⟩ = some (.int .u64 0) := (by rw [hc2 _ _ (by first | (simp; done) | (simp; omega) | omega)]; (first | (simp; done) | (simp [*]; done) | go_simp)); have hk2_5 : w2.cell? ⟨w1.heap.size + 1, 2, none⟩ = some (.string ⟨l.toArray⟩) := (by rw [hc2 _ _ (by first | (simp; done) | (simp; omega) | omega)]; (first | (simp; done) | (simp [*]; done) | go_simp))))
    exact bodyPost_ret (v := .tuple #[.agg #[.int .i64 0, .int .u64 0, .string ⟨#[]⟩], .int .i64 8]) (by simp [*, results, Tryz.results193, go_sem]) rfl (RetV.mk' rfl rfl (by (repeat (with_reducible first | exact Fr.refl _ | assumption | refine Fr.alloc ?_ _ | refine Fr.drew ?_ | refine Fr.drewN ?_ _ | refine Fr.set ?_ (by first | (simp; done) | (simp; omega)) _ | refine Fr.trans ?_ (by assumption)))))

/-- types.Decode: the value of bytes. -/
theorem decode_any (t : Int) (v : Value) (l : List UInt8) (w : World) (hR : RdB w v l) : Calls Tryz.prog 193 #[.int .i64 t, v] w fun e w' => RetV (decV t l) (decE t l) w e w' := by
  have hR0 := hR
  obtain ⟨_, A, c, rfl, hn, hc, h⟩ := hR
  have err : ∀ k, k ≠ 0 → decE t l = k → decV t l = V.zero := fun k hk he => by unfold decV; rw [if_neg (by rw [he]; exact hk)]
  by_cases hi : isOf t = false
  · have e : decE t l = 1 := by unfold decE; rw [if_pos hi]
    rw [err 1 (by decide) e, e]
    exact decx_none t A _ c hi w
  have hi' : isOf t = true := by simpa using hi
  by_cases h1 : (l.length : Int) < szOf t
  · have e : decE t l = 3 := by unfold decE; rw [if_neg hi, if_pos h1]
    rw [err 3 (by decide) e, e]
    exact decx_short t A _ c hi' h1 w
  by_cases hs : 0 < szOf t
  · by_cases h2 : szOf t < (l.length : Int)
    · have e : decE t l = 2 := by unfold decE; rw [if_neg hi, if_neg h1, if_pos (.inl ⟨hs, h2⟩)]
      rw [err 2 (by decide) e, e]
      exact decx_long t A _ c hi' hs h2 w
    · have hl : (l.length : Int) = szOf t := by omega
      rcases h with h0 | ⟨b, o, rfl, hb, hh⟩
      · omega
      have hx : ∀ k, k < l.length → w.cell? ⟨b, o + k, none⟩ = some (.int .u8 (l.getD k 0).toNat) := fun k hk => hh k _ (bcs_at l k hk)
      rcases (szOf_cases t).resolve_left (by omega) with e | e | e | e
      · have hn' : l.length = 1 := by omega
        rw [hn'] at hx hn ⊢
        cases hg : sgOf t
        · exact dec_1f t l b o c hn' e hg hi' hn w hb hx
        · exact dec_1t t l b o c hn' e hg hi' hn w hb hx
      · have hn' : l.length = 2 := by omega
        rw [hn'] at hx hn ⊢
        cases hg : sgOf t
        · exact dec_2f t l b o c hn' e hg hi' hn w hb hx
        · exact dec_2t t l b o c hn' e hg hi' hn w hb hx
      · have hn' : l.length = 4 := by omega
        rw [hn'] at hx hn ⊢
        cases hg : sgOf t
        · exact dec_4f t l b o c hn' e hg hi' hn w hb hx
        · exact dec_4t t l b o c hn' e hg hi' hn w hb hx
      · have hn' : l.length = 8 := by omega
        rw [hn'] at hx hn ⊢
        cases hg : sgOf t
        · exact dec_8f t l b o c hn' e hg hi' hn w hb hx
        · exact dec_8t t l b o c hn' e hg hi' hn w hb hx
  · have hs0 : szOf t = 0 := by have := szOf_nonneg t; omega
    by_cases h2 : 65536 < (l.length : Int)
    · have e : decE t l = 2 := by unfold decE; rw [if_neg hi, if_neg h1, if_pos (.inr h2)]
      rw [err 2 (by decide) e, e]
      exact decx_many t A _ c hi' hs0 h2 w
    · have hr : rawV t l = ⟨t, 0, ⟨l.toArray⟩⟩ := by unfold rawV; rw [if_pos hs0]
      have hd : decE t l = if chkV ⟨t, 0, ⟨l.toArray⟩⟩ ≠ 0 then 8 else 0 := by
        unfold decE
        rw [if_neg hi, if_neg h1, if_neg (by omega), hr]
      have hk := decx_str t A l.length c l hi' hs0 h2 w hR0 _ (check_any ⟨t, 0, ⟨l.toArray⟩⟩ ⟨Int.le_refl 0, by show (0 : Int) ≤ _; omega⟩)
      by_cases hc0 : chkV ⟨t, 0, ⟨l.toArray⟩⟩ = 0
      · have e : decE t l = 0 := by rw [hd, if_neg (by simp [hc0])]
        rw [e, show decV t l = ⟨t, 0, ⟨l.toArray⟩⟩ from by unfold decV; rw [if_pos e, hr]]
        exact hk.1 hc0
      · have e : decE t l = 8 := by rw [hd, if_pos hc0]
        rw [err 8 (by decide) e, e]
        exact hk.2 hc0

end Go.Proofs.YtmllpkpdfhniaaaGreat

namespace Go.Proofs.YtmllpkpdfhniaaaGreat
open Go.RowKit

theorem cmp_u64 (x y : Int) (w : World) : Calls Tryz.prog 231 #[.int .u64 x, .int .u64 y] w fun e w' => e = .returned (.int .i64 (cmpI x y)) ∧ w = w' := by
  unfold cmpI
  by_cases h1 : x < y
  · rw [if_pos h1]
    go_enter Tryz.func231, Tryz.ntmps231
    go_wp2
    go_ret
    exact ⟨rfl, rfl⟩
  · rw [if_neg h1]
    by_cases h2 : y < x
    · rw [if_pos h2]
      go_enter Tryz.func231, Tryz.ntmps231
      go_wp2
      go_ret
      exact ⟨rfl, rfl⟩
    · rw [if_neg h2]
      go_enter Tryz.func231, Tryz.ntmps231
      go_wp2
      go_ret
      exact ⟨rfl, rfl⟩
theorem cmp_u16 (x y : Int) (w : World) : Calls Tryz.prog 189 #[.int .u16 x, .int .u16 y] w fun e w' => e = .returned (.int .i64 (cmpI x y)) ∧ w = w' := by
  unfold cmpI
  by_cases h1 : x < y
  · rw [if_pos h1]
    go_enter Tryz.func189, Tryz.ntmps189
    go_wp2
    go_ret
    exact ⟨rfl, rfl⟩
  · rw [if_neg h1]
    by_cases h2 : y < x
    · rw [if_pos h2]
      go_enter Tryz.func189, Tryz.ntmps189
      go_wp2
      go_ret
      exact ⟨rfl, rfl⟩
    · rw [if_neg h2]
      go_enter Tryz.func189, Tryz.ntmps189
      go_wp2
      go_ret
      exact ⟨rfl, rfl⟩
theorem cmp_u8 (x y : Int) (w : World) : Calls Tryz.prog 190 #[.int .u8 x, .int .u8 y] w fun e w' => e = .returned (.int .i64 (cmpI x y)) ∧ w = w' := by
  unfold cmpI
  by_cases h1 : x < y
  · rw [if_pos h1]
    go_enter Tryz.func190, Tryz.ntmps190
    go_wp2
    go_ret
    exact ⟨rfl, rfl⟩
  · rw [if_neg h1]
    by_cases h2 : y < x
    · rw [if_pos h2]
      go_enter Tryz.func190, Tryz.ntmps190
      go_wp2
      go_ret
      exact ⟨rfl, rfl⟩
    · rw [if_neg h2]
      go_enter Tryz.func190, Tryz.ntmps190
      go_wp2
      go_ret
      exact ⟨rfl, rfl⟩
theorem wrap_sN (n : Int) (h0 : 0 ≤ n) (hn : n ≤ 18446744073709551615) : wrap64 n = sN n := by
  unfold wrap64 sN
  split <;> omega

/-- Two numbers are handed back. -/
def RetI (r c : Int) (w : World) (e : Ending) (w' : World) : Prop := e = .returned (.tuple #[.int .i64 r, .int .i64 c]) ∧ Fr w w'
theorem RetI.mk' {r r' c c' : Int} {w w' : World} (h1 : r' = r) (h2 : c' = c) (h : Fr w w') : RetI r' c' w (.returned (.tuple #[.int .i64 r, .int .i64 c])) w' := by
  subst h1 h2
  exact ⟨rfl, h⟩

section
variable (t n : Int) (b : ByteArray) (t' n' : Int) (b' : ByteArray) (w : World)
theorem ord_a (k : Int) (hk : k ≠ 0) (HK : ∀ w, Calls Tryz.prog 153 #[.agg #[.int .i64 t, .int .u64 n, .string b]] w fun e w' => e = .returned (.int .i64 k) ∧ Fr w w') :
    Calls Tryz.prog 221 #[.agg #[.int .i64 t, .int .u64 n, .string b], .agg #[.int .i64 t', .int .u64 n', .string b']] w fun e w' => RetI 0 k w e w' := by
  have hk' := bne_true hk
  clear hk
  go_enter Tryz.func221, Tryz.ntmps221
  go_wp2_with fail
  refine wp_loop_rounds 1 ?_
  rw [rounds_succ]
  go_wp2_with fail
  refine (HK _).mono ?_
  rintro e w1 ⟨rfl, hF1⟩
  have hz1 := hF1.size; (try simp at hz1)
  (try (have hz1_0 : w.heap.size < w1.heap.size := (by omega)))
  (try (have hz1_1 : w.heap.size + 1 < w1.heap.size := (by omega)))
  (try (have hz1_2 : w.heap.size + 1 + 1 < w1.heap.size := (by omega)))
  have hc1 := hF1.cells
  have hf1 := hF1.froz
  go_wp2_with fail
  go_ret2
  exact RetI.mk' rfl rfl (by (repeat (with_reducible first | exact Fr.refl _ | assumption | refine Fr.alloc ?_ _ | refine Fr.drew ?_ | refine Fr.drewN ?_ _ | refine Fr.set ?_ (by first | (simp; done) | (simp; omega)) _ | refine Fr.trans ?_ (by assumption))))
theorem ord_b (k : Int) (hk : k ≠ 0) (HK : ∀ w, Calls Tryz.prog 153 #[.agg #[.int .i64 t, .int .u64 n, .string b]] w fun e w' => e = .returned (.int .i64 0) ∧ Fr w w')
    (HK' : ∀ w, Calls Tryz.prog 153 #[.agg #[.int .i64 t', .int .u64 n', .string b']] w fun e w' => e = .returned (.int .i64 k) ∧ Fr w w') :
    Calls Tryz.prog 221 #[.agg #[.int .i64 t, .int .u64 n, .string b], .agg #[.int .i64 t', .int .u64 n', .string b']] w fun e w' => RetI 0 k w e w' := by
  have hk' := bne_true hk
  clear hk
  go_enter Tryz.func221, Tryz.ntmps221
  go_wp2_with fail
  refine wp_loop_rounds 2 ?_
  rw [rounds_succ]
  go_wp2_with fail
  refine (HK _).mono ?_
  rintro e w1 ⟨rfl, hF1⟩
  have hz1 := hF1.size; (try simp at hz1)
  (try (have hz1_0 : w.heap.size < w1.heap.size := (by omega)))
  (try (have hz1_1 : w.heap.size + 1 < w1.heap.size := (by omega)))
  (try (have hz1_2 : w.heap.size + 1 + 1 < w1.heap.size := (by omega)))
  have hc1 := hF1.cells
  have hf1 := hF1.froz
  go_wp2_with fail
  rw [rounds_succ]
  go_wp2_with fail
  refine (HK' _).mono ?_
  rintro e w2 ⟨rfl, hF2⟩
  have hz2 := hF2.size; (try simp at hz2)
  (try (have hz2_0 : w.heap.size < w2.heap.size := (by omega)))
  (try (have hz2_1 : w.heap.size + 1 < w2.heap.size := (by omega)))
  (try (have hz2_2 : w.heap.size + 1 + 1 < w2.heap.size := (by omega)))
  have hc2 := hF2.cells
  have hf2 := hF2.froz
  go_wp2_with fail
  go_ret2
  exact RetI.mk' rfl rfl (by (repeat (with_reducible first | exact Fr.refl _ | assumption | refine Fr.alloc ?_ _ | refine Fr.drew ?_ | refine Fr.drewN ?_ _ | refine Fr.set ?_ (by first | (simp; done) | (simp; omega)) _ | refine Fr.trans ?_ (by assumption))))
variable (HK : ∀ w, Calls Tryz.prog 153 #[.agg #[.int .i64 t, .int .u64 n, .string b]] w fun e w' => e = .returned (.int .i64 0) ∧ Fr w w')
    (HK' : ∀ w, Calls Tryz.prog 153 #[.agg #[.int .i64 t', .int .u64 n', .string b']] w fun e w' => e = .returned (.int .i64 0) ∧ Fr w w')
include HK HK'
theorem ord_diff (ht : (t != t') = true) :
    Calls Tryz.prog 221 #[.agg #[.int .i64 t, .int .u64 n, .string b], .agg #[.int .i64 t', .int .u64 n', .string b']] w fun e w' => RetI (0) 1 w e w' := by
  go_enter Tryz.func221, Tryz.ntmps221
  go_wp2_with fail
  refine wp_loop_rounds 3 ?_
  rw [rounds_succ]
  go_wp2_with fail
  refine (HK _).mono ?_
  rintro e w1 ⟨rfl, hF1⟩
  have hz1 := hF1.size; (try simp at hz1)
  (try (have hz1_0 : w.heap.size < w1.heap.size := (by omega)))
  (try (have hz1_1 : w.heap.size + 1 < w1.heap.size := (by omega)))
  (try (have hz1_2 : w.heap.size + 1 + 1 < w1.heap.size := (by omega)))
  have hc1 := hF1.cells
  have hf1 := hF1.froz
  go_wp2_with fail
  rw [rounds_succ]
  go_wp2_with fail
  refine (HK' _).mono ?_
  rintro e w2 ⟨rfl, hF2⟩
  have hz2 := hF2.size; (try simp at hz2)
  (try (have hz2_0 : w.heap.size < w2.heap.size := (by omega)))
  (try (have hz2_1 : w.heap.size + 1 < w2.heap.size := (by omega)))
  (try (have hz2_2 : w.heap.size + 1 + 1 < w2.heap.size := (by omega)))
  have hc2 := hF2.cells
  have hf2 := hF2.froz
  go_wp2_with fail
  rw [rounds_succ]
  go_wp2_with fail
  go_ret2
  exact RetI.mk' rfl rfl (by (repeat (with_reducible first | exact Fr.refl _ | assumption | refine Fr.alloc ?_ _ | refine Fr.drew ?_ | refine Fr.drewN ?_ _ | refine Fr.set ?_ (by first | (simp; done) | (simp; omega)) _ | refine Fr.trans ?_ (by assumption))))
theorem ord_str (ht : (t != t') = false) (hs : szOf t = 0) :
    Calls Tryz.prog 221 #[.agg #[.int .i64 t, .int .u64 n, .string b], .agg #[.int .i64 t', .int .u64 n', .string b']] w fun e w' => RetI (Lib.compareBytes b.data.toList b'.data.toList) 0 w e w' := by
  have H := of_any t
  rw [hs] at H
  clear hs
  have HC := Tryz.strings_Compare b b'
  generalize Lib.compareBytes b.data.toList b'.data.toList = r at HC
  go_enter Tryz.func221, Tryz.ntmps221
  go_wp2_with fail
  refine wp_loop_rounds 3 ?_
  rw [rounds_succ]
  go_wp2_with fail
  refine (HK _).mono ?_
  rintro e w1 ⟨rfl, hF1⟩
  have hz1 := hF1.size; (try simp at hz1)
  (try (have hz1_0 : w.heap.size < w1.heap.size := (by omega)))
  (try (have hz1_1 : w.heap.size + 1 < w1.heap.size := (by omega)))
  (try (have hz1_2 : w.heap.size + 1 + 1 < w1.heap.size := (by omega)))
  have hc1 := hF1.cells
  have hf1 := hF1.froz
  go_wp2_with fail
  rw [rounds_succ]
  go_wp2_with fail
  refine (HK' _).mono ?_
  rintro e w2 ⟨rfl, hF2⟩
  have hz2 := hF2.size; (try simp at hz2)
  (try (have hz2_0 : w.heap.size < w2.heap.size := (by omega)))
  (try (have hz2_1 : w.heap.size + 1 < w2.heap.size := (by omega)))
  (try (have hz2_2 : w.heap.size + 1 + 1 < w2.heap.size := (by omega)))
  have hc2 := hF2.cells
  have hf2 := hF2.froz
  go_wp2_with fail
  rw [rounds_succ]
  go_wp2_with (first | (go_at_call 154; refine (H _).mono ?_; rintro e w3 ⟨rfl, hF3⟩; have hz3 := hF3.size; (try simp at hz3); (try (have hz3_0 : w.heap.size < w3.heap.size := (by omega))); (try (have hz3_1 : w.heap.size + 1 < w3.heap.size := (by omega))); (try (have hz3_2 : w.heap.size + 1 + 1 < w3.heap.size := (by omega))); have hc3 := hF3.cells; have hf3 := hF3.froz) | (go_at_call 229; refine (HC _).mono ?_; rintro e w4 ⟨rfl, rfl⟩))
  go_ret2
  exact RetI.mk' rfl rfl (by (repeat (with_reducible first | exact Fr.refl _ | assumption | refine Fr.alloc ?_ _ | refine Fr.drew ?_ | refine Fr.drewN ?_ _ | refine Fr.set ?_ (by first | (simp; done) | (simp; omega)) _ | refine Fr.trans ?_ (by assumption))))
theorem ord_sgn (ht : (t != t') = false) (hs : 0 < szOf t) (hg : sgOf t = true) (h0 : 0 ≤ n) (hn : n ≤ 18446744073709551615) (h0' : 0 ≤ n') (hn' : n' ≤ 18446744073709551615) :
    Calls Tryz.prog 221 #[.agg #[.int .i64 t, .int .u64 n, .string b], .agg #[.int .i64 t', .int .u64 n', .string b']] w fun e w' => RetI (cmpI (sN n) (sN n')) 0 w e w' := by
  have H := of_any t
  rw [hg] at H
  have hs2 : (szOf t == 0) = false := by simp; omega
  have HC := Tryz.cmp_Compare_int (wrap64 n) (wrap64 n')
  rw [show Lib.compareInt (wrap64 n) (wrap64 n') = cmpI (wrap64 n) (wrap64 n') from rfl, wrap_sN n h0 hn, wrap_sN n' h0' hn'] at HC
  have w1' := Lib.hid (wrap_sN n h0 hn)
  have w2' := Lib.hid (wrap_sN n' h0' hn')
  generalize cmpI (sN n) (sN n') = r at HC
  clear hg
  go_enter Tryz.func221, Tryz.ntmps221
  go_wp2_with fail
  refine wp_loop_rounds 3 ?_
  rw [rounds_succ]
  go_wp2_with fail
  refine (HK _).mono ?_
  rintro e w1 ⟨rfl, hF1⟩
  have hz1 := hF1.size; (try simp at hz1)
  (try (have hz1_0 : w.heap.size < w1.heap.size := (by omega)))
  (try (have hz1_1 : w.heap.size + 1 < w1.heap.size := (by omega)))
  (try (have hz1_2 : w.heap.size + 1 + 1 < w1.heap.size := (by omega)))
  have hc1 := hF1.cells
  have hf1 := hF1.froz
  go_wp2_with fail
  rw [rounds_succ]
  go_wp2_with fail
  refine (HK' _).mono ?_
  rintro e w2 ⟨rfl, hF2⟩
  have hz2 := hF2.size; (try simp at hz2)
  (try (have hz2_0 : w.heap.size < w2.heap.size := (by omega)))
  (try (have hz2_1 : w.heap.size + 1 < w2.heap.size := (by omega)))
  (try (have hz2_2 : w.heap.size + 1 + 1 < w2.heap.size := (by omega)))
  have hc2 := hF2.cells
  have hf2 := hF2.froz
  go_wp2_with fail
  rw [rounds_succ]
  go_wp2_with (first | (go_at_call 154; refine (H _).mono ?_; rintro e w3 ⟨rfl, hF3⟩; have hz3 := hF3.size; (try simp at hz3); (try (have hz3_0 : w.heap.size < w3.heap.size := (by omega))); (try (have hz3_1 : w.heap.size + 1 < w3.heap.size := (by omega))); (try (have hz3_2 : w.heap.size + 1 + 1 < w3.heap.size := (by omega))); have hc3 := hF3.cells; have hf3 := hF3.froz) | (go_at_call 230; (try rw [w1'.out]); (try rw [w2'.out]); refine (HC _).mono ?_; rintro e w4 ⟨rfl, rfl⟩))
  go_ret2
  exact RetI.mk' rfl rfl (by (repeat (with_reducible first | exact Fr.refl _ | assumption | refine Fr.alloc ?_ _ | refine Fr.drew ?_ | refine Fr.drewN ?_ _ | refine Fr.set ?_ (by first | (simp; done) | (simp; omega)) _ | refine Fr.trans ?_ (by assumption))))
theorem ord_uns (ht : (t != t') = false) (hs : 0 < szOf t) (hg : sgOf t = false) :
    Calls Tryz.prog 221 #[.agg #[.int .i64 t, .int .u64 n, .string b], .agg #[.int .i64 t', .int .u64 n', .string b']] w fun e w' => RetI (cmpI n n') 0 w e w' := by
  have H := of_any t
  rw [hg] at H
  have hs2 : (szOf t == 0) = false := by simp; omega
  have HC := cmp_u64 n n'
  generalize cmpI n n' = r at HC
  clear hg
  go_enter Tryz.func221, Tryz.ntmps221
  go_wp2_with fail
  refine wp_loop_rounds 3 ?_
  rw [rounds_succ]
  go_wp2_with fail
  refine (HK _).mono ?_
  rintro e w1 ⟨rfl, hF1⟩
  have hz1 := hF1.size; (try simp at hz1)
  (try (have hz1_0 : w.heap.size < w1.heap.size := (by omega)))
  (try (have hz1_1 : w.heap.size + 1 < w1.heap.size := (by omega)))
  (try (have hz1_2 : w.heap.size + 1 + 1 < w1.heap.size := (by omega)))
  have hc1 := hF1.cells
  have hf1 := hF1.froz
  go_wp2_with fail
  rw [rounds_succ]
  go_wp2_with fail
  refine (HK' _).mono ?_
  rintro e w2 ⟨rfl, hF2⟩
  have hz2 := hF2.size; (try simp at hz2)
  (try (have hz2_0 : w.heap.size < w2.heap.size := (by omega)))
  (try (have hz2_1 : w.heap.size + 1 < w2.heap.size := (by omega)))
  (try (have hz2_2 : w.heap.size + 1 + 1 < w2.heap.size := (by omega)))
  have hc2 := hF2.cells
  have hf2 := hF2.froz
  go_wp2_with fail
  rw [rounds_succ]
  go_wp2_with (first | (go_at_call 154; refine (H _).mono ?_; rintro e w3 ⟨rfl, hF3⟩; have hz3 := hF3.size; (try simp at hz3); (try (have hz3_0 : w.heap.size < w3.heap.size := (by omega))); (try (have hz3_1 : w.heap.size + 1 < w3.heap.size := (by omega))); (try (have hz3_2 : w.heap.size + 1 + 1 < w3.heap.size := (by omega))); have hc3 := hF3.cells; have hf3 := hF3.froz) | (go_at_call 231; refine (HC _).mono ?_; rintro e w4 ⟨rfl, rfl⟩))
  go_ret2
  exact RetI.mk' rfl rfl (by (repeat (with_reducible first | exact Fr.refl _ | assumption | refine Fr.alloc ?_ _ | refine Fr.drew ?_ | refine Fr.drewN ?_ _ | refine Fr.set ?_ (by first | (simp; done) | (simp; omega)) _ | refine Fr.trans ?_ (by assumption))))
end

/-- types.Order: which of two values is greater. -/
theorem order_any (a b : V) (ha : a.wf) (hb : b.wf) (w : World) : Calls Tryz.prog 221 #[a.agg, b.agg] w fun e w' => RetI (ordN a b) (ordE a b) w e w' := by
  have HA := check_any a ha
  have HB := check_any b hb
  obtain ⟨h0, hn⟩ := ha
  obtain ⟨h0', hn'⟩ := hb
  by_cases ea : chkV a = 0
  · by_cases eb : chkV b = 0
    · rw [ea] at HA
      rw [eb] at HB
      by_cases et : a.t = b.t
      · have e : ordE a b = 0 := by unfold ordE; simp [ea, eb, et]
        unfold ordN
        rw [if_neg (by simp [e]), e]
        have et' := bne_false et
        by_cases es : szOf a.t = 0
        · rw [if_pos es]; exact ord_str a.t a.n a.b b.t b.n b.b w HA HB et' es
        · have hs : 0 < szOf a.t := by have := szOf_nonneg a.t; omega
          rw [if_neg es]
          cases hg : sgOf a.t
          · rw [if_neg (by simp)]; exact ord_uns a.t a.n a.b b.t b.n b.b w HA HB et' hs hg
          · rw [if_pos rfl]; exact ord_sgn a.t a.n a.b b.t b.n b.b w HA HB et' hs hg h0 hn h0' hn'
      · have e : ordE a b = 1 := by unfold ordE; simp [ea, eb, et]
        unfold ordN
        rw [if_pos (by simp [e]), e]
        exact ord_diff a.t a.n a.b b.t b.n b.b w HA HB (bne_true et)
    · have e : ordE a b = chkV b := by unfold ordE; simp [ea, eb]
      rw [ea] at HA
      unfold ordN
      rw [if_pos (by rw [e]; exact eb), e]
      exact ord_b a.t a.n a.b b.t b.n b.b w _ eb HA HB
  · have e : ordE a b = chkV a := by unfold ordE; simp [ea]
    unfold ordN
    rw [if_pos (by rw [e]; exact ea), e]
    exact ord_a a.t a.n a.b b.t b.n b.b w _ ea HA

end Go.Proofs.YtmllpkpdfhniaaaGreat
