/- The document's types (ref07): Wide. The document's types (ref07): Wide: its contract. The document's types (ref07): when a number is what its low bytes tell. -/
import Derived.Test.YtmllpkpdfhniaaaGreatJARfB
set_option linter.unusedVariables false
set_option linter.unusedSimpArgs false
namespace Go.Proofs.YtmllpkpdfhniaaaGreat
open Go.RowKit

set_option maxRecDepth 100000 in
set_option maxHeartbeats 1000000 in
/-- Bytes are read as a number. -/
theorem wide_low (t : Int) (l : List UInt8) (p b o c : Nat) (hl : l.length = p + 1) (hp : p < 8) (hg : sgOf t = false)  (hc2 : p + 1 ≤ c) (w : World) (hb : b < w.heap.size)
    (hx : ∀ k, k < p + 1 → w.cell? ⟨b, o + k, none⟩ = some (.int .u8 (l.getD k 0).toNat)) :
    Calls Tryz.prog 173 #[.int .i64 t, .slice (some ⟨b, o, none⟩) (p + 1) c] w fun e w' => e = .returned (.int .u64 (leN l : Nat)) ∧ Fr w w' := by
  have HS := rsigned_any t
  rw [hg] at HS
  have hxp := hx p (by omega)
  have HX := Lib.hid hx
  have HL := Lib.hid hl
  clear hx hg hl
  go_enter Tryz.func173, Tryz.ntmps173
  go_wp2
  go_loopw [5, 6] (fun v5 i wr => ∃ k : Nat, k ≤ p + 1 ∧ i = .int .i64 k ∧ v5 = .int .u64 (leN (l.take k)) ∧ wr = w) (fun _ i _ => p + 1 - (intOf i).toNat)
  case atStart => exact ⟨0, Nat.zero_le _, rfl, rfl, rfl⟩
  case round =>
    obtain ⟨k, hk, rfl, rfl, rfl⟩ := hrel
    by_cases hlt : k < p + 1
    · have hx2 := HX.out k hlt
      have hx3 := (l.getD k 0).toNat_lt
      have hm := leN_take_lt l k (by rw [HL.out]; omega)
      have hst := Lib.hid (leN_take l k (by rw [HL.out]; omega))
      have hor := Lib.hid (or_step _ _ k hm hx3 (by omega))
      have h8 : decide ((k : Int) < 8) = true := by simp; omega
      generalize (l.getD k 0).toNat = x at *
      generalize leN (l.take k) = m at *
      clear hm
      go_wp2
      go_roundw
      case rel => exact ⟨k + 1, by omega, by go_num, by rw [hor.out, ← hst.out], by trivial⟩
      case measure =>
        show p + 1 - ((k : Int) + 1).toNat < p + 1 - ((k : Int)).toNat
        omega
    · obtain rfl : k = p + 1 := by omega
      have hnl : ¬ (((p + 1 : Nat) : Nat) : Int) < (p + 1 : Nat) := by omega
      rw [List.take_of_length_le (by rw [HL.out]; exact Nat.le_refl _)]
      go_wp2_with (first | (go_at_call 203; refine (HS _).mono ?_; rintro e w1 ⟨rfl, hF1⟩; have hz1 := hF1.size; (try simp at hz1); (try (have hz1_0 : b < w1.heap.size := (by omega))); have hc1 := hF1.cells; have hf1 := hF1.froz))
      go_ret
      exact ⟨rfl, by (repeat (with_reducible first | exact Fr.refl _ | assumption | refine Fr.alloc ?_ _ | refine Fr.drew ?_ | refine Fr.drewN ?_ _ | refine Fr.set ?_ (by first | (simp; done) | (simp; omega)) _ | refine Fr.trans ?_ (by assumption)))⟩

set_option maxRecDepth 100000 in
set_option maxHeartbeats 1000000 in
/-- Bytes are read as a number. -/
theorem wide_top0 (t : Int) (l : List UInt8) (p b o c : Nat) (hl : l.length = p + 1) (hp : p < 8) (hg : sgOf t = true) (ht : (l.getD p 0).toNat < 128) (hc2 : p + 1 ≤ c) (w : World) (hb : b < w.heap.size)
    (hx : ∀ k, k < p + 1 → w.cell? ⟨b, o + k, none⟩ = some (.int .u8 (l.getD k 0).toNat)) :
    Calls Tryz.prog 173 #[.int .i64 t, .slice (some ⟨b, o, none⟩) (p + 1) c] w fun e w' => e = .returned (.int .u64 (leN l : Nat)) ∧ Fr w w' := by
  have HS := rsigned_any t
  rw [hg] at HS
  have hxp := hx p (by omega)
  have HX := Lib.hid hx
  have HL := Lib.hid hl
  clear hx hg hl
  go_enter Tryz.func173, Tryz.ntmps173
  go_wp2
  go_loopw [5, 6] (fun v5 i wr => ∃ k : Nat, k ≤ p + 1 ∧ i = .int .i64 k ∧ v5 = .int .u64 (leN (l.take k)) ∧ wr = w) (fun _ i _ => p + 1 - (intOf i).toNat)
  case atStart => exact ⟨0, Nat.zero_le _, rfl, rfl, rfl⟩
  case round =>
    obtain ⟨k, hk, rfl, rfl, rfl⟩ := hrel
    by_cases hlt : k < p + 1
    · have hx2 := HX.out k hlt
      have hx3 := (l.getD k 0).toNat_lt
      have hm := leN_take_lt l k (by rw [HL.out]; omega)
      have hst := Lib.hid (leN_take l k (by rw [HL.out]; omega))
      have hor := Lib.hid (or_step _ _ k hm hx3 (by omega))
      have h8 : decide ((k : Int) < 8) = true := by simp; omega
      generalize (l.getD k 0).toNat = x at *
      generalize leN (l.take k) = m at *
      clear hm
      go_wp2
      go_roundw
      case rel => exact ⟨k + 1, by omega, by go_num, by rw [hor.out, ← hst.out], by trivial⟩
      case measure =>
        show p + 1 - ((k : Int) + 1).toNat < p + 1 - ((k : Int)).toNat
        omega
    · obtain rfl : k = p + 1 := by omega
      have hnl : ¬ (((p + 1 : Nat) : Nat) : Int) < (p + 1 : Nat) := by omega
      rw [List.take_of_length_le (by rw [HL.out]; exact Nat.le_refl _)]
      generalize (l.getD p 0).toNat = x at *
      go_wp2_with (first | (go_at_call 203; refine (HS _).mono ?_; rintro e w1 ⟨rfl, hF1⟩; have hz1 := hF1.size; (try simp at hz1); (try (have hz1_0 : b < w1.heap.size := (by omega))); have hc1 := hF1.cells; have hf1 := hF1.froz))
      go_ret
      exact ⟨rfl, by (repeat (with_reducible first | exact Fr.refl _ | assumption | refine Fr.alloc ?_ _ | refine Fr.drew ?_ | refine Fr.drewN ?_ _ | refine Fr.set ?_ (by first | (simp; done) | (simp; omega)) _ | refine Fr.trans ?_ (by assumption)))⟩

set_option maxRecDepth 100000 in
set_option maxHeartbeats 1000000 in
/-- Bytes are read as a number. -/
theorem wide_top1 (t : Int) (l : List UInt8) (p b o c : Nat) (hl : l.length = p + 1) (hp : p < 8) (hg : sgOf t = true) (ht : ¬ (l.getD p 0).toNat < 128) (hc2 : p + 1 ≤ c) (w : World) (hb : b < w.heap.size)
    (hx : ∀ k, k < p + 1 → w.cell? ⟨b, o + k, none⟩ = some (.int .u8 (l.getD k 0).toNat)) :
    Calls Tryz.prog 173 #[.int .i64 t, .slice (some ⟨b, o, none⟩) (p + 1) c] w fun e w' => e = .returned (.int .u64 (leN l + (256 ^ 8 - 256 ^ (p + 1) : Nat) : Nat)) ∧ Fr w w' := by
  have HS := rsigned_any t
  rw [hg] at HS
  have hxp := hx p (by omega)
  have HX := Lib.hid hx
  have HL := Lib.hid hl
  clear hx hg hl
  go_enter Tryz.func173, Tryz.ntmps173
  go_wp2
  go_loopw [5, 6] (fun v5 i wr => ∃ k : Nat, k ≤ p + 1 ∧ i = .int .i64 k ∧ v5 = .int .u64 (leN (l.take k)) ∧ wr = w) (fun _ i _ => p + 1 - (intOf i).toNat)
  case atStart => exact ⟨0, Nat.zero_le _, rfl, rfl, rfl⟩
  case round =>
    obtain ⟨k, hk, rfl, rfl, rfl⟩ := hrel
    by_cases hlt : k < p + 1
    · have hx2 := HX.out k hlt
      have hx3 := (l.getD k 0).toNat_lt
      have hm := leN_take_lt l k (by rw [HL.out]; omega)
      have hst := Lib.hid (leN_take l k (by rw [HL.out]; omega))
      have hor := Lib.hid (or_step _ _ k hm hx3 (by omega))
      have h8 : decide ((k : Int) < 8) = true := by simp; omega
      generalize (l.getD k 0).toNat = x at *
      generalize leN (l.take k) = m at *
      clear hm
      go_wp2
      go_roundw
      case rel => exact ⟨k + 1, by omega, by go_num, by rw [hor.out, ← hst.out], by trivial⟩
      case measure =>
        show p + 1 - ((k : Int) + 1).toNat < p + 1 - ((k : Int)).toNat
        omega
    · obtain rfl : k = p + 1 := by omega
      have hnl : ¬ (((p + 1 : Nat) : Nat) : Int) < (p + 1 : Nat) := by omega
      rw [List.take_of_length_le (by rw [HL.out]; exact Nat.le_refl _)]
      have hml : leN l < 256 ^ (p + 1) := by have := leN_lt l; rwa [HL.out] at this
      generalize (l.getD p 0).toNat = x at *
      generalize hmm : leN l = m at *
      have HM := Lib.hid hmm
      clear hmm
      go_wp2_with (first | (go_at_call 203; refine (HS _).mono ?_; rintro e w1 ⟨rfl, hF1⟩; have hz1 := hF1.size; (try simp at hz1); (try (have hz1_0 : b < w1.heap.size := (by omega))); have hc1 := hF1.cells; have hf1 := hF1.froz))
      go_loopw [5, 7] (fun v5 i wr => ∃ k : Nat, p + 1 ≤ k ∧ k ≤ 8 ∧ i = .int .i64 k ∧ v5 = .int .u64 (m + (256 ^ k - 256 ^ (p + 1)) : Nat) ∧ wr = w1) (fun _ i _ => 8 - (intOf i).toNat)
      case atStart => exact ⟨p + 1, Nat.le_refl _, by omega, by simp, by simp, rfl⟩
      case round =>
        obtain ⟨k, hk1, hk8, rfl, rfl, rfl⟩ := hrel
        by_cases hlt : k < 8
        · have hpw : 256 ^ (p + 1) ≤ 256 ^ k := Nat.pow_le_pow_right (by omega) hk1
          have hor := Lib.hid (or_step (m + (256 ^ k - 256 ^ (p + 1))) 255 k (by omega) (by omega) hlt)
          have hst : Hid (m + (256 ^ k - 256 ^ (p + 1)) + 255 * 256 ^ k = m + (256 ^ (k + 1) - 256 ^ (p + 1))) := Lib.hid (by rw [Nat.pow_succ]; omega)
          clear hpw hml
          generalize m + (256 ^ k - 256 ^ (p + 1)) = y at *
          go_wp2
          go_roundw
          case rel =>
            exact ⟨k + 1, by omega, by omega, by go_num, by rw [← hst.out]; exact congrArg _ hor.out, by trivial⟩
          case measure =>
            show 8 - ((k : Int) + 1).toNat < 8 - ((k : Int)).toNat
            omega
        · obtain rfl : k = 8 := by omega
          go_wp2
          go_ret
          refine ⟨ret_int (by rw [HM.out]), by (repeat (with_reducible first | exact Fr.refl _ | assumption | refine Fr.alloc ?_ _ | refine Fr.drew ?_ | refine Fr.drewN ?_ _ | refine Fr.set ?_ (by first | (simp; done) | (simp; omega)) _ | refine Fr.trans ?_ (by assumption)))⟩


end Go.Proofs.YtmllpkpdfhniaaaGreat

namespace Go.Proofs.YtmllpkpdfhniaaaGreat
open Go.RowKit

theorem top_byte (l : List UInt8) (p : Nat) (hl : l.length = p + 1) : ((l.getD p 0).toNat < 128 → leN l < 128 * 256 ^ p) ∧ (¬ (l.getD p 0).toNat < 128 → 128 * 256 ^ p ≤ leN l) := by
  have h1 := leN_take l p (by omega)
  have h2 := leN_take_lt l p (by omega)
  rw [List.take_of_length_le (by omega)] at h1
  generalize (l.getD p 0).toNat = x at *
  generalize leN (l.take p) = a at *
  generalize 256 ^ p = q at *
  rw [h1]
  refine ⟨fun h => ?_, fun h => ?_⟩
  · have : x * q ≤ 127 * q := Nat.mul_le_mul_right q (by omega)
    omega
  · have : 128 * q ≤ x * q := Nat.mul_le_mul_right q (by omega)
    omega

theorem rwide_any (t : Int) (l : List UInt8) (hs : 0 < szOf t) (hl : l.length = (szOf t).toNat) (v : Value) (w : World) (hR : RdB w v l) :
    Calls Tryz.prog 173 #[.int .i64 t, v] w fun e w' => e = .returned (.int .u64 (wideV t l)) ∧ Fr w w' := by
  obtain ⟨_, A, c, rfl, hn, hc, hx⟩ := hR
  have h8 : szOf t ≤ 8 := szOf_le t
  obtain ⟨p, hp⟩ : ∃ p, l.length = p + 1 := ⟨l.length - 1, by omega⟩
  rcases hx with hx | ⟨b, o, rfl, hb, hx⟩
  · omega
  have hx' : ∀ k, k < p + 1 → w.cell? ⟨b, o + k, none⟩ = some (.int .u8 (l.getD k 0).toNat) := fun k hk => hx k _ (bcs_at l k (by omega))
  have hcast : ((l.length : Nat) : Int) = (p : Int) + 1 := by omega
  have htb := top_byte l p hp
  have hsp : (szOf t = 1 ∧ p = 0) ∨ (szOf t = 2 ∧ p = 1) ∨ (szOf t = 4 ∧ p = 3) ∨ (szOf t = 8 ∧ p = 7) := by rcases szOf_cases t with h | h | h | h | h <;> omega
  rw [show (Value.slice (some ⟨b, o, none⟩) l.length c) = .slice (some ⟨b, o, none⟩) (p + 1) c by rw [hp]]
  by_cases hg : sgOf t = true
  · by_cases ht : (l.getD p 0).toNat < 128
    · have hw : wideV t l = (leN l : Int) := by
        unfold wideV
        rw [if_neg]
        rintro ⟨_, h2⟩
        have := htb.1 ht
        unfold halfOf at h2
        rcases hsp with ⟨h, rfl⟩ | ⟨h, rfl⟩ | ⟨h, rfl⟩ | ⟨h, rfl⟩ <;> rw [h] at h2 <;> simp at h2 this <;> omega
      rw [hw]
      exact wide_top0 t l p b o c hp (by omega) hg ht (by omega) w hb hx'
    · have hw : wideV t l = ((leN l + (256 ^ 8 - 256 ^ (p + 1)) : Nat) : Int) := by
        have := htb.2 ht
        unfold wideV halfOf fullOf
        rcases hsp with ⟨h, rfl⟩ | ⟨h, rfl⟩ | ⟨h, rfl⟩ | ⟨h, rfl⟩ <;> rw [h] <;> simp at this ⊢ <;> rw [if_pos ⟨hg, by omega⟩] <;> omega
      rw [hw]
      exact wide_top1 t l p b o c hp (by omega) hg ht (by omega) w hb hx'
  · have hg' : sgOf t = false := by simpa using hg
    have hw : wideV t l = (leN l : Int) := by unfold wideV; rw [if_neg (fun h => hg h.1)]
    rw [hw]
    exact wide_low t l p b o c hp (by omega) hg' (by omega) w hb hx'

end Go.Proofs.YtmllpkpdfhniaaaGreat

namespace Go.Proofs.YtmllpkpdfhniaaaGreat
open Go.RowKit

theorem leN_leB (n : Int) : ∀ k, leN (leB n k) = n.toNat % 256 ^ k
  | 0 => by simp [leB, leN, Nat.mod_one]
  | k + 1 => by
    have h8 : (by8 n k).toNat = n.toNat / 256 ^ k % 256 := by unfold by8; simp
    rw [leB_succ, leN_snoc, leN_leB n k, leB_len, h8, Nat.pow_succ, Nat.mod_mul, Nat.mul_comm (256 ^ k)]
theorem wide_fits (t n : Int) (hs : 0 < szOf t) (h0 : 0 ≤ n) (hn : n ≤ 18446744073709551615) : wideV t (leB n (szOf t).toNat) = n ↔ fitsV (szOf t) (sgOf t) n = true := by
  obtain ⟨m, rfl⟩ := Int.eq_ofNat_of_zero_le h0
  unfold wideV fitsV
  rw [leN_leB]
  rcases szOf_cases t with h | h | h | h | h <;> rw [h] at hs ⊢
  · omega
  · cases hg : sgOf t
    · simp [fullOf, halfOf]
      omega
    · simp only [fullOf, halfOf, true_and, if_true, decide_eq_true_eq]
      simp
      first | omega | (split <;> omega)
  · cases hg : sgOf t
    · simp [fullOf, halfOf]
      omega
    · simp only [fullOf, halfOf, true_and, if_true, decide_eq_true_eq]
      simp
      first | omega | (split <;> omega)
  · cases hg : sgOf t
    · simp [fullOf, halfOf]
      omega
    · simp only [fullOf, halfOf, true_and, if_true, decide_eq_true_eq]
      simp
      first | omega | (split <;> omega)
  · cases hg : sgOf t
    · simp [fullOf, halfOf]
      omega
    · simp only [fullOf, halfOf, true_and, if_true, decide_eq_true_eq]
      simp
      first | omega | (split <;> omega)

end Go.Proofs.YtmllpkpdfhniaaaGreat
