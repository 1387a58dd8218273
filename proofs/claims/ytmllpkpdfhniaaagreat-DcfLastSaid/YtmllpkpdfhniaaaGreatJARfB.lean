/- The document's types (ref07): low. The document's types (ref07): Plain. -/
import Derived.Test.YtmllpkpdfhniaaaGreatJARfA
set_option linter.unusedVariables false
set_option linter.unusedSimpArgs false
namespace Go.Proofs.YtmllpkpdfhniaaaGreat
open Go.RowKit

set_option maxRecDepth 100000 in
set_option maxHeartbeats 2000000 in
theorem low_any (n : Int) (s : Nat) (hn : 0 ≤ n) (hn2 : n ≤ 18446744073709551615) (hs : s ≤ 8) (w : World) :
    Calls Tryz.prog 174 #[.int .u64 n, .int .i64 s] w fun e w' => ∃ v, e = .returned v ∧ OB w' w.heap.size v (leB n s) ∧ Fr w w' := by
  go_enter Tryz.func174, Tryz.ntmps174
  go_wp2
  go_loopw [5, 6] (fun v5 i wr => ∃ k : Nat, k ≤ s ∧ i = .int .i64 k ∧ Fr w wr ∧ OB wr w.heap.size v5 (leB n k)) (fun _ i _ => s - (intOf i).toNat)
  case atStart => exact ⟨0, Nat.zero_le _, rfl, (Fr.refl w).alloc _, made_bytes (Nat.le_refl _)⟩
  case round =>
    obtain ⟨k, hk, rfl, hF, hO⟩ := hrel
    by_cases hlt : k < s
    · have hl : (leB n k).length = k := leB_len n k
      have HO := Lib.hid hO
      have hwz := hF.size
      clear hO
      obtain ⟨i0, hi0, hiz0, hiz1, hiz2⟩ := info_parts infoByte
      have h8 : k = 0 ∨ k = 1 ∨ k = 2 ∨ k = 3 ∨ k = 4 ∨ k = 5 ∨ k = 6 ∨ k = 7 := by omega
      rcases h8 with rfl | rfl | rfl | rfl | rfl | rfl | rfl | rfl
      · go_wp2_with (at_builtin; refine wpList_append_rd _ (by rfl) (.tmp 13) (.tmp 20) _ (by rfl) w.heap.size 5 i0 (.int .u8 0) 1 1 Tryz.underlying36 hi0 hiz0 hiz1 hiz2 rfl (by omega) u5 (leB n 0).length (bcs (leB n 0)) (by rfl) (HO.out.fr (by (repeat (with_reducible first | exact Fr.refl _ | assumption | refine Fr.alloc ?_ _ | refine Fr.drew ?_ | refine Fr.drewN ?_ _ | refine Fr.set ?_ (by first | (simp; done) | (simp; omega)) _ | refine Fr.trans ?_ (by assumption))))) _ 1 (bcs [by8 n 0]) (by rfl) (rd_byte wr _ (by8 n 0) (by rw [by8_nat]; simp [wrap8]; try omega)) (bcs_one _) (by simp only [maxLen]; omega) (by omega) (by simp; omega) ?_; intro v8 w8 hown8 hgrow8)
        go_roundw
        case rel =>
          refine ⟨0 + 1, by omega, by rfl, Fr.grown (by (repeat (with_reducible first | exact Fr.refl _ | assumption | refine Fr.alloc ?_ _ | refine Fr.drew ?_ | refine Fr.drewN ?_ _ | refine Fr.set ?_ (by first | (simp; done) | (simp; omega)) _ | refine Fr.trans ?_ (by assumption)))) hgrow8 (fun r hr => (HO.out.lt r hr).1), ?_⟩
          unfold OB
          rw [leB_succ, bcs_app, List.length_append]
          exact hown8
        case measure =>
          show s - (((0 : Nat) : Int) + 1).toNat < s - (((0 : Nat) : Int)).toNat
          omega
      · go_wp2_with (at_builtin; refine wpList_append_rd _ (by rfl) (.tmp 13) (.tmp 20) _ (by rfl) w.heap.size 5 i0 (.int .u8 0) 1 1 Tryz.underlying36 hi0 hiz0 hiz1 hiz2 rfl (by omega) u5 (leB n 1).length (bcs (leB n 1)) (by rfl) (HO.out.fr (by (repeat (with_reducible first | exact Fr.refl _ | assumption | refine Fr.alloc ?_ _ | refine Fr.drew ?_ | refine Fr.drewN ?_ _ | refine Fr.set ?_ (by first | (simp; done) | (simp; omega)) _ | refine Fr.trans ?_ (by assumption))))) _ 1 (bcs [by8 n 1]) (by rfl) (rd_byte wr _ (by8 n 1) (by rw [by8_nat]; simp [wrap8]; try omega)) (bcs_one _) (by simp only [maxLen]; omega) (by omega) (by simp; omega) ?_; intro v8 w8 hown8 hgrow8)
        go_roundw
        case rel =>
          refine ⟨1 + 1, by omega, by rfl, Fr.grown (by (repeat (with_reducible first | exact Fr.refl _ | assumption | refine Fr.alloc ?_ _ | refine Fr.drew ?_ | refine Fr.drewN ?_ _ | refine Fr.set ?_ (by first | (simp; done) | (simp; omega)) _ | refine Fr.trans ?_ (by assumption)))) hgrow8 (fun r hr => (HO.out.lt r hr).1), ?_⟩
          unfold OB
          rw [leB_succ, bcs_app, List.length_append]
          exact hown8
        case measure =>
          show s - (((1 : Nat) : Int) + 1).toNat < s - (((1 : Nat) : Int)).toNat
          omega
      · go_wp2_with (at_builtin; refine wpList_append_rd _ (by rfl) (.tmp 13) (.tmp 20) _ (by rfl) w.heap.size 5 i0 (.int .u8 0) 1 1 Tryz.underlying36 hi0 hiz0 hiz1 hiz2 rfl (by omega) u5 (leB n 2).length (bcs (leB n 2)) (by rfl) (HO.out.fr (by (repeat (with_reducible first | exact Fr.refl _ | assumption | refine Fr.alloc ?_ _ | refine Fr.drew ?_ | refine Fr.drewN ?_ _ | refine Fr.set ?_ (by first | (simp; done) | (simp; omega)) _ | refine Fr.trans ?_ (by assumption))))) _ 1 (bcs [by8 n 2]) (by rfl) (rd_byte wr _ (by8 n 2) (by rw [by8_nat]; simp [wrap8]; try omega)) (bcs_one _) (by simp only [maxLen]; omega) (by omega) (by simp; omega) ?_; intro v8 w8 hown8 hgrow8)
        go_roundw
        case rel =>
          refine ⟨2 + 1, by omega, by rfl, Fr.grown (by (repeat (with_reducible first | exact Fr.refl _ | assumption | refine Fr.alloc ?_ _ | refine Fr.drew ?_ | refine Fr.drewN ?_ _ | refine Fr.set ?_ (by first | (simp; done) | (simp; omega)) _ | refine Fr.trans ?_ (by assumption)))) hgrow8 (fun r hr => (HO.out.lt r hr).1), ?_⟩
          unfold OB
          rw [leB_succ, bcs_app, List.length_append]
          exact hown8
        case measure =>
          show s - (((2 : Nat) : Int) + 1).toNat < s - (((2 : Nat) : Int)).toNat
          omega
      · go_wp2_with (at_builtin; refine wpList_append_rd _ (by rfl) (.tmp 13) (.tmp 20) _ (by rfl) w.heap.size 5 i0 (.int .u8 0) 1 1 Tryz.underlying36 hi0 hiz0 hiz1 hiz2 rfl (by omega) u5 (leB n 3).length (bcs (leB n 3)) (by rfl) (HO.out.fr (by (repeat (with_reducible first | exact Fr.refl _ | assumption | refine Fr.alloc ?_ _ | refine Fr.drew ?_ | refine Fr.drewN ?_ _ | refine Fr.set ?_ (by first | (simp; done) | (simp; omega)) _ | refine Fr.trans ?_ (by assumption))))) _ 1 (bcs [by8 n 3]) (by rfl) (rd_byte wr _ (by8 n 3) (by rw [by8_nat]; simp [wrap8]; try omega)) (bcs_one _) (by simp only [maxLen]; omega) (by omega) (by simp; omega) ?_; intro v8 w8 hown8 hgrow8)
        go_roundw
        case rel =>
          refine ⟨3 + 1, by omega, by rfl, Fr.grown (by (repeat (with_reducible first | exact Fr.refl _ | assumption | refine Fr.alloc ?_ _ | refine Fr.drew ?_ | refine Fr.drewN ?_ _ | refine Fr.set ?_ (by first | (simp; done) | (simp; omega)) _ | refine Fr.trans ?_ (by assumption)))) hgrow8 (fun r hr => (HO.out.lt r hr).1), ?_⟩
          unfold OB
          rw [leB_succ, bcs_app, List.length_append]
          exact hown8
        case measure =>
          show s - (((3 : Nat) : Int) + 1).toNat < s - (((3 : Nat) : Int)).toNat
          omega
      · go_wp2_with (at_builtin; refine wpList_append_rd _ (by rfl) (.tmp 13) (.tmp 20) _ (by rfl) w.heap.size 5 i0 (.int .u8 0) 1 1 Tryz.underlying36 hi0 hiz0 hiz1 hiz2 rfl (by omega) u5 (leB n 4).length (bcs (leB n 4)) (by rfl) (HO.out.fr (by (repeat (with_reducible first | exact Fr.refl _ | assumption | refine Fr.alloc ?_ _ | refine Fr.drew ?_ | refine Fr.drewN ?_ _ | refine Fr.set ?_ (by first | (simp; done) | (simp; omega)) _ | refine Fr.trans ?_ (by assumption))))) _ 1 (bcs [by8 n 4]) (by rfl) (rd_byte wr _ (by8 n 4) (by rw [by8_nat]; simp [wrap8]; try omega)) (bcs_one _) (by simp only [maxLen]; omega) (by omega) (by simp; omega) ?_; intro v8 w8 hown8 hgrow8)
        go_roundw
        case rel =>
          refine ⟨4 + 1, by omega, by rfl, Fr.grown (by (repeat (with_reducible first | exact Fr.refl _ | assumption | refine Fr.alloc ?_ _ | refine Fr.drew ?_ | refine Fr.drewN ?_ _ | refine Fr.set ?_ (by first | (simp; done) | (simp; omega)) _ | refine Fr.trans ?_ (by assumption)))) hgrow8 (fun r hr => (HO.out.lt r hr).1), ?_⟩
          unfold OB
          rw [leB_succ, bcs_app, List.length_append]
          exact hown8
        case measure =>
          show s - (((4 : Nat) : Int) + 1).toNat < s - (((4 : Nat) : Int)).toNat
          omega
      · go_wp2_with (at_builtin; refine wpList_append_rd _ (by rfl) (.tmp 13) (.tmp 20) _ (by rfl) w.heap.size 5 i0 (.int .u8 0) 1 1 Tryz.underlying36 hi0 hiz0 hiz1 hiz2 rfl (by omega) u5 (leB n 5).length (bcs (leB n 5)) (by rfl) (HO.out.fr (by (repeat (with_reducible first | exact Fr.refl _ | assumption | refine Fr.alloc ?_ _ | refine Fr.drew ?_ | refine Fr.drewN ?_ _ | refine Fr.set ?_ (by first | (simp; done) | (simp; omega)) _ | refine Fr.trans ?_ (by assumption))))) _ 1 (bcs [by8 n 5]) (by rfl) (rd_byte wr _ (by8 n 5) (by rw [by8_nat]; simp [wrap8]; try omega)) (bcs_one _) (by simp only [maxLen]; omega) (by omega) (by simp; omega) ?_; intro v8 w8 hown8 hgrow8)
        go_roundw
        case rel =>
          refine ⟨5 + 1, by omega, by rfl, Fr.grown (by (repeat (with_reducible first | exact Fr.refl _ | assumption | refine Fr.alloc ?_ _ | refine Fr.drew ?_ | refine Fr.drewN ?_ _ | refine Fr.set ?_ (by first | (simp; done) | (simp; omega)) _ | refine Fr.trans ?_ (by assumption)))) hgrow8 (fun r hr => (HO.out.lt r hr).1), ?_⟩
          unfold OB
          rw [leB_succ, bcs_app, List.length_append]
          exact hown8
        case measure =>
          show s - (((5 : Nat) : Int) + 1).toNat < s - (((5 : Nat) : Int)).toNat
          omega
      · go_wp2_with (at_builtin; refine wpList_append_rd _ (by rfl) (.tmp 13) (.tmp 20) _ (by rfl) w.heap.size 5 i0 (.int .u8 0) 1 1 Tryz.underlying36 hi0 hiz0 hiz1 hiz2 rfl (by omega) u5 (leB n 6).length (bcs (leB n 6)) (by rfl) (HO.out.fr (by (repeat (with_reducible first | exact Fr.refl _ | assumption | refine Fr.alloc ?_ _ | refine Fr.drew ?_ | refine Fr.drewN ?_ _ | refine Fr.set ?_ (by first | (simp; done) | (simp; omega)) _ | refine Fr.trans ?_ (by assumption))))) _ 1 (bcs [by8 n 6]) (by rfl) (rd_byte wr _ (by8 n 6) (by rw [by8_nat]; simp [wrap8]; try omega)) (bcs_one _) (by simp only [maxLen]; omega) (by omega) (by simp; omega) ?_; intro v8 w8 hown8 hgrow8)
        go_roundw
        case rel =>
          refine ⟨6 + 1, by omega, by rfl, Fr.grown (by (repeat (with_reducible first | exact Fr.refl _ | assumption | refine Fr.alloc ?_ _ | refine Fr.drew ?_ | refine Fr.drewN ?_ _ | refine Fr.set ?_ (by first | (simp; done) | (simp; omega)) _ | refine Fr.trans ?_ (by assumption)))) hgrow8 (fun r hr => (HO.out.lt r hr).1), ?_⟩
          unfold OB
          rw [leB_succ, bcs_app, List.length_append]
          exact hown8
        case measure =>
          show s - (((6 : Nat) : Int) + 1).toNat < s - (((6 : Nat) : Int)).toNat
          omega
      · go_wp2_with (at_builtin; refine wpList_append_rd _ (by rfl) (.tmp 13) (.tmp 20) _ (by rfl) w.heap.size 5 i0 (.int .u8 0) 1 1 Tryz.underlying36 hi0 hiz0 hiz1 hiz2 rfl (by omega) u5 (leB n 7).length (bcs (leB n 7)) (by rfl) (HO.out.fr (by (repeat (with_reducible first | exact Fr.refl _ | assumption | refine Fr.alloc ?_ _ | refine Fr.drew ?_ | refine Fr.drewN ?_ _ | refine Fr.set ?_ (by first | (simp; done) | (simp; omega)) _ | refine Fr.trans ?_ (by assumption))))) _ 1 (bcs [by8 n 7]) (by rfl) (rd_byte wr _ (by8 n 7) (by rw [by8_nat]; simp [wrap8]; try omega)) (bcs_one _) (by simp only [maxLen]; omega) (by omega) (by simp; omega) ?_; intro v8 w8 hown8 hgrow8)
        go_roundw
        case rel =>
          refine ⟨7 + 1, by omega, by rfl, Fr.grown (by (repeat (with_reducible first | exact Fr.refl _ | assumption | refine Fr.alloc ?_ _ | refine Fr.drew ?_ | refine Fr.drewN ?_ _ | refine Fr.set ?_ (by first | (simp; done) | (simp; omega)) _ | refine Fr.trans ?_ (by assumption)))) hgrow8 (fun r hr => (HO.out.lt r hr).1), ?_⟩
          unfold OB
          rw [leB_succ, bcs_app, List.length_append]
          exact hown8
        case measure =>
          show s - (((7 : Nat) : Int) + 1).toNat < s - (((7 : Nat) : Int)).toNat
          omega
    · have hks : k = s := by omega
      subst hks
      have hnl : ¬ ((k : Nat) : Int) < (k : Nat) := by omega
      have HO := Lib.hid hO
      clear hO
      go_wp2
      go_ret
      exact ⟨u5, rfl, HO.out, hF⟩

end Go.Proofs.YtmllpkpdfhniaaaGreat

namespace Go.Proofs.YtmllpkpdfhniaaaGreat
open Go.RowKit

theorem rpl_num (t n : Int) (b : ByteArray) (s : Int) (hs : 0 < s) (HS : ∀ w, Calls Tryz.prog 104 #[.int .i64 t] w fun e w' => e = .returned (.int .i64 s) ∧ Fr w w') (w : World) : Calls Tryz.prog 116 #[.agg #[.int .i64 t, .int .u64 n, .string b]] w fun e w' => e = .returned (.agg #[.int .i64 t, .int .u64 n, .string ⟨#[]⟩]) ∧ Fr w w' := by
  go_enter Tryz.func116, Tryz.ntmps116
  go_wp2_with (first | (go_at_call 104; refine (HS _).mono ?_; rintro e w1 ⟨rfl, hF1⟩; have hz1 := hF1.size; (try simp at hz1); (try (have hz1_0 : w.heap.size < w1.heap.size := (by omega))); (try (have hz1_1 : w.heap.size + 1 < w1.heap.size := (by omega))); have hc1 := hF1.cells; have hf1 := hF1.froz; have hg1_0 : ∀ o, w1.frozen? ⟨w.heap.size, o, none⟩ = false := (by intro o; rw [hf1 _ _ (by first | (simp; done) | (simp; omega) | omega)]; (first | (simp; done) | (simp [*]; done) | go_simp)); have hk1_0 : w1.cell? ⟨w.heap.size, 0, none⟩ = some (.int .i64 t) := (by rw [hc1 _ _ (by first | (simp; done) | (simp; omega) | omega)]; (first | (simp; done) | (simp [*]; done) | go_simp)); have hk1_1 : w1.cell? ⟨w.heap.size, 1, none⟩ = some (.int .u64 n) := (by rw [hc1 _ _ (by first | (simp; done) | (simp; omega) | omega)]; (first | (simp; done) | (simp [*]; done) | go_simp)); have hk1_2 : w1.cell? ⟨w.heap.size, 2, none⟩ = some (.string b) := (by rw [hc1 _ _ (by first | (simp; done) | (simp; omega) | omega)]; (first | (simp; done) | (simp [*]; done) | go_simp)); have hg1_3 : ∀ o, w1.frozen? ⟨w.heap.size + 1, o, none⟩ = false := (by intro o; rw [hf1 _ _ (by first | (simp; done) | (simp; omega) | omega)]; (first | (simp; done) | (simp [*]; done) | go_simp)); have hk1_3 : w1.cell? ⟨w.heap.size + 1, 0, none⟩ = some (.int .i64 0) := (by rw [hc1 _ _ (by first | (simp; done) | (simp; omega) | omega)]; (first | (simp; done) | (simp [*]; done) | go_simp)); have hk1_4 : w1.cell? ⟨w.heap.size + 1, 1, none⟩ = some (.int .u64 0) := (by rw [hc1 _ _ (by first | (simp; done) | (simp; omega) | omega)]; (first | (simp; done) | (simp [*]; done) | go_simp)); have hk1_5 : w1.cell? ⟨w.heap.size + 1, 2, none⟩ = some (.string ⟨#[]⟩) := (by rw [hc1 _ _ (by first | (simp; done) | (simp; omega) | omega)]; (first | (simp; done) | (simp [*]; done) | go_simp))))
  exact bodyPost_ret (v := .agg #[.int .i64 t, .int .u64 n, .string ⟨#[]⟩]) (by simp [*, results, Tryz.results116, go_sem]) rfl (⟨rfl, by (repeat (with_reducible first | exact Fr.refl _ | assumption | refine Fr.alloc ?_ _ | refine Fr.drew ?_ | refine Fr.drewN ?_ _ | refine Fr.set ?_ (by first | (simp; done) | (simp; omega)) _ | refine Fr.trans ?_ (by assumption)))⟩)
theorem rpl_is (t n : Int) (b : ByteArray) (HS : ∀ w, Calls Tryz.prog 104 #[.int .i64 t] w fun e w' => e = .returned (.int .i64 0) ∧ Fr w w') (HI : ∀ w, Calls Tryz.prog 172 #[.int .i64 t] w fun e w' => e = .returned (.bool true) ∧ Fr w w') (w : World) : Calls Tryz.prog 116 #[.agg #[.int .i64 t, .int .u64 n, .string b]] w fun e w' => e = .returned (.agg #[.int .i64 t, .int .u64 0, .string b]) ∧ Fr w w' := by
  go_enter Tryz.func116, Tryz.ntmps116
  go_wp2_with (first | (go_at_call 104; refine (HS _).mono ?_; rintro e w1 ⟨rfl, hF1⟩; have hz1 := hF1.size; (try simp at hz1); (try (have hz1_0 : w.heap.size < w1.heap.size := (by omega))); (try (have hz1_1 : w.heap.size + 1 < w1.heap.size := (by omega))); have hc1 := hF1.cells; have hf1 := hF1.froz; have hg1_0 : ∀ o, w1.frozen? ⟨w.heap.size, o, none⟩ = false := (by intro o; rw [hf1 _ _ (by first | (simp; done) | (simp; omega) | omega)]; (first | (simp; done) | (simp [*]; done) | go_simp)); have hk1_0 : w1.cell? ⟨w.heap.size, 0, none⟩ = some (.int .i64 t) := (by rw [hc1 _ _ (by first | (simp; done) | (simp; omega) | omega)]; (first | (simp; done) | (simp [*]; done) | go_simp)); have hk1_1 : w1.cell? ⟨w.heap.size, 1, none⟩ = some (.int .u64 n) := (by rw [hc1 _ _ (by first | (simp; done) | (simp; omega) | omega)]; (first | (simp; done) | (simp [*]; done) | go_simp)); have hk1_2 : w1.cell? ⟨w.heap.size, 2, none⟩ = some (.string b) := (by rw [hc1 _ _ (by first | (simp; done) | (simp; omega) | omega)]; (first | (simp; done) | (simp [*]; done) | go_simp)); have hg1_3 : ∀ o, w1.frozen? ⟨w.heap.size + 1, o, none⟩ = false := (by intro o; rw [hf1 _ _ (by first | (simp; done) | (simp; omega) | omega)]; (first | (simp; done) | (simp [*]; done) | go_simp)); have hk1_3 : w1.cell? ⟨w.heap.size + 1, 0, none⟩ = some (.int .i64 0) := (by rw [hc1 _ _ (by first | (simp; done) | (simp; omega) | omega)]; (first | (simp; done) | (simp [*]; done) | go_simp)); have hk1_4 : w1.cell? ⟨w.heap.size + 1, 1, none⟩ = some (.int .u64 0) := (by rw [hc1 _ _ (by first | (simp; done) | (simp; omega) | omega)]; (first | (simp; done) | (simp [*]; done) | go_simp)); have hk1_5 : w1.cell? ⟨w.heap.size + 1, 2, none⟩ = some (.string ⟨#[]⟩) := (by rw [hc1 _ _ (by first | (simp; done) | (simp; omega) | omega)]; (first | (simp; done) | (simp [*]; done) | go_simp))) | (go_at_call 172; refine (HI _).mono ?_; rintro e w2 ⟨rfl, hF2⟩; have hz2 := hF2.size; (try simp at hz2); (try (have hz2_0 : w.heap.size < w2.heap.size := (by omega))); (try (have hz2_1 : w.heap.size + 1 < w2.heap.size := (by omega))); have hc2 := hF2.cells; have hf2 := hF2.froz; have hg2_0 : ∀ o, w2.frozen? ⟨w.heap.size, o, none⟩ = false := (by intro o; rw [hf2 _ _ (by first | (simp; done) | (simp; omega) | omega)]; (first | (simp; done) | (simp [*]; done) | go_simp)); have hk2_0 : w2.cell? ⟨w.heap.size, 0, none⟩ = some (.int .i64 t) := (by rw [hc2 _ _ (by first | (simp; done) | (simp; omega) | omega)]; (first | (simp; done) | (simp [*]; done) | go_simp)); have hk2_1 : w2.cell? ⟨w.heap.size, 1, none⟩ = some (.int .u64 n) := (by rw [hc2 _ _ (by first | (simp; done) | (simp; omega) | omega)]; (first | (simp; done) | (simp [*]; done) | go_simp)); have hk2_2 : w2.cell? ⟨w.heap.size, 2, none⟩ = some (.string b) := (by rw [hc2 _ _ (by first | (simp; done) | (simp; omega) | omega)]; (first | (simp; done) | (simp [*]; done) | go_simp)); have hg2_3 : ∀ o, w2.frozen? ⟨w.heap.size + 1, o, none⟩ = false := (by intro o; rw [hf2 _ _ (by first | (simp; done) | (simp; omega) | omega)]; (first | (simp; done) | (simp [*]; done) | go_simp)); have hk2_3 : w2.cell? ⟨w.heap.size + 1, 0, none⟩ = some (.int .i64 0) := (by rw [hc2 _ _ (by first | (simp; done) | (simp; omega) | omega)]; (first | (simp; done) | (simp [*]; done) | go_simp)); have hk2_4 : w2.cell? ⟨w.heap.size + 1, 1, none⟩ = some (.int .u64 0) := (by rw [hc2 _ _ (by first | (simp; done) | (simp; omega) | omega)]; (first | (simp; done) | (simp [*]; done) | go_simp)); have hk2_5 : w2.cell? ⟨w.heap.size + 1, 2, none⟩ = some (.string ⟨#[]⟩) := (by rw [hc2 _ _ (by first | (simp; done) | (simp; omega) | omega)]; (first | (simp; done) | (simp [*]; done) | go_simp))))
  exact bodyPost_ret (v := .agg #[.int .i64 t, .int .u64 0, .string b]) (by simp [*, results, Tryz.results116, go_sem]) rfl (⟨rfl, by (repeat (with_reducible first | exact Fr.refl _ | assumption | refine Fr.alloc ?_ _ | refine Fr.drew ?_ | refine Fr.drewN ?_ _ | refine Fr.set ?_ (by first | (simp; done) | (simp; omega)) _ | refine Fr.trans ?_ (by assumption)))⟩)
theorem rpl_no (t n : Int) (b : ByteArray) (HS : ∀ w, Calls Tryz.prog 104 #[.int .i64 t] w fun e w' => e = .returned (.int .i64 0) ∧ Fr w w') (HI : ∀ w, Calls Tryz.prog 172 #[.int .i64 t] w fun e w' => e = .returned (.bool false) ∧ Fr w w') (w : World) : Calls Tryz.prog 116 #[.agg #[.int .i64 t, .int .u64 n, .string b]] w fun e w' => e = .returned (.agg #[.int .i64 t, .int .u64 n, .string b]) ∧ Fr w w' := by
  go_enter Tryz.func116, Tryz.ntmps116
  go_wp2_with (first | (go_at_call 104; refine (HS _).mono ?_; rintro e w1 ⟨rfl, hF1⟩; have hz1 := hF1.size; (try simp at hz1); (try (have hz1_0 : w.heap.size < w1.heap.size := (by omega))); (try (have hz1_1 : w.heap.size + 1 < w1.heap.size := (by omega))); have hc1 := hF1.cells; have hf1 := hF1.froz; have hg1_0 : ∀ o, w1.frozen? ⟨w.heap.size, o, none⟩ = false := (by intro o; rw [hf1 _ _ (by first | (simp; done) | (simp; omega) | omega)]; (first | (simp; done) | (simp [*]; done) | go_simp)); have hk1_0 : w1.cell? ⟨w.heap.size, 0, none⟩ = some (.int .i64 t) := (by rw [hc1 _ _ (by first | (simp; done) | (simp; omega) | omega)]; (first | (simp; done) | (simp [*]; done) | go_simp)); have hk1_1 : w1.cell? ⟨w.heap.size, 1, none⟩ = some (.int .u64 n) := (by rw [hc1 _ _ (by first | (simp; done) | (simp; omega) | omega)]; (first | (simp; done) | (simp [*]; done) | go_simp)); have hk1_2 : w1.cell? ⟨w.heap.size, 2, none⟩ = some (.string b) := (by rw [hc1 _ _ (by first | (simp; done) | (simp; omega) | omega)]; (first | (simp; done) | (simp [*]; done) | go_simp)); have hg1_3 : ∀ o, w1.frozen? ⟨w.heap.size + 1, o, none⟩ = false := (by intro o; rw [hf1 _ _ (by first | (simp; done) | (simp; omega) | omega)]; (first | (simp; done) | (simp [*]; done) | go_simp)); have hk1_3 : w1.cell? ⟨w.heap.size + 1, 0, none⟩ = some (.int .i64 0) := (by rw [hc1 _ _ (by first | (simp; done) | (simp; omega) | omega)]; (first | (simp; done) | (simp [*]; done) | go_simp)); have hk1_4 : w1.cell? ⟨w.heap.size + 1, 1, none⟩ = some (.int .u64 0) := (by rw [hc1 _ _ (by first | (simp; done) | (simp; omega) | omega)]; (first | (simp; done) | (simp [*]; done) | go_simp)); have hk1_5 : w1.cell? ⟨w.heap.size + 1, 2, none⟩ = some (.string ⟨#[]⟩) := (by rw [hc1 _ _ (by first | (simp; done) | (simp; omega) | omega)]; (first | (simp; done) | (simp [*]; done) | go_simp))) | (go_at_call 172; refine (HI _).mono ?_; rintro e w2 ⟨rfl, hF2⟩; have hz2 := hF2.size; (try simp at hz2); (try (have hz2_0 : w.heap.size < w2.heap.size := (by omega))); (try (have hz2_1 : w.heap.size + 1 < w2.heap.size := (by omega))); have hc2 := hF2.cells; have hf2 := hF2.froz; have hg2_0 : ∀ o, w2.frozen? ⟨w.heap.size, o, none⟩ = false := (by intro o; rw [hf2 _ _ (by first | (simp; done) | (simp; omega) | omega)]; (first | (simp; done) | (simp [*]; done) | go_simp)); have hk2_0 : w2.cell? ⟨w.heap.size, 0, none⟩ = some (.int .i64 t) := (by rw [hc2 _ _ (by first | (simp; done) | (simp; omega) | omega)]; (first | (simp; done) | (simp [*]; done) | go_simp)); have hk2_1 : w2.cell? ⟨w.heap.size, 1, none⟩ = some (.int .u64 n) := (by rw [hc2 _ _ (by first | (simp; done) | (simp; omega) | omega)]; (first | (simp; done) | (simp [*]; done) | go_simp)); have hk2_2 : w2.cell? ⟨w.heap.size, 2, none⟩ = some (.string b) := (by rw [hc2 _ _ (by first | (simp; done) | (simp; omega) | omega)]; (first | (simp; done) | (simp [*]; done) | go_simp)); have hg2_3 : ∀ o, w2.frozen? ⟨w.heap.size + 1, o, none⟩ = false := (by intro o; rw [hf2 _ _ (by first | (simp; done) | (simp; omega) | omega)]; (first | (simp; done) | (simp [*]; done) | go_simp)); have hk2_3 : w2.cell? ⟨w.heap.size + 1, 0, none⟩ = some (.int .i64 0) := (by rw [hc2 _ _ (by first | (simp; done) | (simp; omega) | omega)]; (first | (simp; done) | (simp [*]; done) | go_simp)); have hk2_4 : w2.cell? ⟨w.heap.size + 1, 1, none⟩ = some (.int .u64 0) := (by rw [hc2 _ _ (by first | (simp; done) | (simp; omega) | omega)]; (first | (simp; done) | (simp [*]; done) | go_simp)); have hk2_5 : w2.cell? ⟨w.heap.size + 1, 2, none⟩ = some (.string ⟨#[]⟩) := (by rw [hc2 _ _ (by first | (simp; done) | (simp; omega) | omega)]; (first | (simp; done) | (simp [*]; done) | go_simp))))
  exact bodyPost_ret (v := .agg #[.int .i64 t, .int .u64 n, .string b]) (by simp [*, results, Tryz.results116, go_sem]) rfl (⟨rfl, by (repeat (with_reducible first | exact Fr.refl _ | assumption | refine Fr.alloc ?_ _ | refine Fr.drew ?_ | refine Fr.drewN ?_ _ | refine Fr.set ?_ (by first | (simp; done) | (simp; omega)) _ | refine Fr.trans ?_ (by assumption)))⟩)
theorem rplain_any (v : V) (w : World) : Calls Tryz.prog 116 #[v.agg] w fun e w' => e = .returned (plainV v).agg ∧ Fr w w' := by
  have HS := rsize_any v.t
  have HI := ris_any v.t
  obtain ⟨t, n, b⟩ := v
  unfold plainV
  dsimp only at *
  by_cases h : 0 < szOf t
  · rw [if_pos h]
    exact rpl_num t n b _ h HS w
  · rw [if_neg h]
    have h0 : szOf t = 0 := by rcases szOf_cases t with h1 | h1 | h1 | h1 | h1 <;> omega
    rw [h0] at HS
    by_cases h2 : isOf t = true
    · rw [if_pos h2]
      rw [h2] at HI
      exact rpl_is t n b HS HI w
    · rw [if_neg h2]
      rw [show isOf t = false by simpa using h2] at HI
      exact rpl_no t n b HS HI w

end Go.Proofs.YtmllpkpdfhniaaaGreat
