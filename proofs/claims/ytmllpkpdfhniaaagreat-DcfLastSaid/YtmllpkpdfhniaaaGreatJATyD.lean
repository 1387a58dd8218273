/- The program's types.Decode: what it answers, in whatever world. -/
import Derived.Test.YtmllpkpdfhniaaaGreatJATyB
set_option linter.unusedVariables false
set_option linter.unusedSimpArgs false
namespace Go.Proofs.YtmllpkpdfhniaaaGreat
open Go.RowKit

theorem dec_num (t : Int) (l : List UInt8) (hl : l.length = (szOf t).toNat) (hs : 0 < szOf t) :
    (chkV ⟨t, wideV t l, noB⟩ = 0 → decV t l = ⟨t, wideV t l, noB⟩ ∧ decE t l = 0) ∧ (chkV ⟨t, wideV t l, noB⟩ ≠ 0 → decV t l = V.zero ∧ decE t l = 8) := by
  have h8 := szOf_le t
  have hi := is_sz hs
  have hl' : (l.length : Int) = szOf t := by rw [hl]; omega
  have hr : rawV t l = ⟨t, wideV t l, noB⟩ := by unfold rawV; rw [if_neg (by omega)]
  have hd : decE t l = if chkV ⟨t, wideV t l, noB⟩ ≠ 0 then 8 else 0 := by
    unfold decE
    rw [if_neg (by simp [hi]), if_neg (by omega), if_neg (by omega), hr]
  refine ⟨fun h => ?_, fun h => ?_⟩
  · have e : decE t l = 0 := by rw [hd, if_neg (by simp [h])]
    exact ⟨by unfold decV; rw [if_pos e, hr], e⟩
  · have e : decE t l = 8 := by rw [hd, if_pos h]
    exact ⟨by unfold decV; rw [if_neg (by rw [e]; decide)], e⟩

set_option maxHeartbeats 1000000 in
theorem dec_1t (t : Int) (l : List UInt8) (b o c : Nat) (hl : l.length = 1) (hs : szOf t = 1) (hg : sgOf t = true) (hi : isOf t = true) (hc2 : 1 ≤ c) (w : World) (hb : b < w.heap.size)
    (hx : ∀ k, k < 1 → w.cell? ⟨b, o + k, none⟩ = some (.int .u8 (l.getD k 0).toNat)) :
    Calls Tryz.prog 193 #[.int .i64 t, .slice (some ⟨b, o, none⟩) 1 c] w fun e w' => RetV (decV t l) (decE t l) w e w' := by
  have H := of_any t
  rw [hs, hg, hi] at H
  have hwf := wideV_wf t l (by rw [hl, hs]; rfl)
  have hD := Lib.hid (dec_num t l (by rw [hl, hs]; rfl) (by rw [hs]; omega))
  have hN := wide_t (l := l) hs hg
  clear hs hg hi
  have HN := Lib.hid hN
  have HX := Lib.hid hx
  have HW := Lib.hid hwf
  have HL := Lib.hid hl
  clear hN hx hl hwf
  go_enter Tryz.func193, Tryz.ntmps193
  go_wp2_with (first | (go_at_call 154; refine (H _).mono ?_; rintro e w1 ⟨rfl, hF1⟩; have hz1 := hF1.size; (try simp at hz1); (try (have hz1_0 : w.heap.size < w1.heap.size := (by omega))); (try (have hz1_1 : b < w1.heap.size := (by omega))); have hc1 := hF1.cells; have hf1 := hF1.froz))
  go_loopw [8, 9, 17] (fun _ _ i wr => ∃ k q : Nat, k ≤ 1 ∧ i = .int .i64 k ∧ wr = ((w1.alloc (.cells #[.int .i64 1, .bool true, .bool true] 237)).alloc (.cells #[.int .i64 t, .int .u64 (leN (l.take k)), .string ⟨#[]⟩] 44)).drewN q) (fun _ _ i _ => 1 - (intOf i).toNat)
  case atStart => exact ⟨0, 0, by omega, rfl, rfl⟩
  case round =>
    obtain ⟨k, q, hk, rfl, rfl⟩ := hrel
    by_cases hlt : k < 1
    · have hx := HX.out k hlt
      have hx2 : w1.cell? ⟨b, o + k, none⟩ = some (.int .u8 (l.getD k 0).toNat) := by rw [hc1 _ _ (by simp; omega), World.cell?_alloc_past _ _ _ hb]; exact hx
      have hx3 := (l.getD k 0).toNat_lt
      have hm := leN_take_lt l k (by rw [HL.out]; omega)
      have hst := Lib.hid (leN_take l k (by rw [HL.out]; omega))
      have hor := Lib.hid (or_step _ _ k hm hx3 (by omega))
      generalize (l.getD k 0).toNat = x at *
      generalize leN (l.take k) = m at *
      clear hm
      go_wp2_with fail
      go_region
      rw [hor.out, ← hst.out]
      go_wp2
      go_roundw
      case rel => exact ⟨k + 1, q + 1, by omega, by go_num, rfl⟩
      case measure => simp [intOf]; omega
    · obtain rfl : k = 1 := by omega
      have hm := leN_take_lt l 1 (by rw [HL.out]; omega)
      rw [show l.take 1 = l from List.take_of_length_le (by rw [HL.out]; omega)] at *
      generalize hmm : leN l = m at *
      go_wp2_with fail
      rw [sgx_1 m hm]
      rw [← HN.out]
      have hwf := HW.out
      generalize hNN : wideV t l = N at *
      clear HN
      refine (check_any ⟨t, N, noB⟩ hwf _).mono ?_
      rintro e w2 ⟨rfl, hF2⟩
      (have hz2 := hF2.size; (try simp at hz2); (try (have hz2_0 : w.heap.size < w2.heap.size := (by omega))); (try (have hz2_1 : w1.heap.size < w2.heap.size := (by omega))); (try (have hz2_2 : w1.heap.size + 1 < w2.heap.size := (by omega))); have hc2 := hF2.cells; have hf2 := hF2.froz; have hg2_0 : ∀ o, w2.frozen? ⟨w.heap.size, o, none⟩ = false := (by intro o; rw [hf2 _ _ (by first | (simp; done) | (simp; omega) | omega)]; (first | (simp; done) | (simp [*]; done) | go_simp)); have hk2_0 : w2.cell? ⟨w.heap.size, 0, none⟩ = some (.int .i64 0) := (by rw [hc2 _ _ (by first | (simp; done) | (simp; omega) | omega)]; (first | (simp; done) | (simp [*]; done) | go_simp)); have hk2_1 : w2.cell? ⟨w.heap.size, 1, none⟩ = some (.int .u64 0) := (by rw [hc2 _ _ (by first | (simp; done) | (simp; omega) | omega)]; (first | (simp; done) | (simp [*]; done) | go_simp)); have hk2_2 : w2.cell? ⟨w.heap.size, 2, none⟩ = some (.string ⟨#[]⟩) := (by rw [hc2 _ _ (by first | (simp; done) | (simp; omega) | omega)]; (first | (simp; done) | (simp [*]; done) | go_simp)); have hg2_3 : ∀ o, w2.frozen? ⟨w1.heap.size + 1, o, none⟩ = false := (by intro o; rw [hf2 _ _ (by first | (simp; done) | (simp; omega) | omega)]; (first | (simp; done) | (simp [*]; done) | go_simp)); have hk2_3 : w2.cell? ⟨w1.heap.size + 1, 0, none⟩ = some (.int .i64 t) := (by rw [hc2 _ _ (by first | (simp; done) | (simp; omega) | omega)]; (first | (simp; done) | (simp [*]; done) | go_simp)); have hk2_4 : w2.cell? ⟨w1.heap.size + 1, 1, none⟩ = some (.int .u64 N) := (by rw [hc2 _ _ (by first | (simp; done) | (simp; omega) | omega)]; (first | (simp; done) | (simp [*]; done) | go_simp)); have hk2_5 : w2.cell? ⟨w1.heap.size + 1, 2, none⟩ = some (.string ⟨#[]⟩) := (by rw [hc2 _ _ (by first | (simp; done) | (simp; omega) | omega)]; (first | (simp; done) | (simp [*]; done) | go_simp)))
      by_cases hch : chkV ⟨t, N, noB⟩ = 0
      · have hch' : (chkV ⟨t, N, noB⟩ != 0) = false := bne_false hch
        obtain ⟨e1, e2⟩ := hD.out.1 hch
        have E := Lib.hid (And.intro e1 e2)
        clear hch hD e1 e2
        go_wp2_with fail
        exact bodyPost_ret (v := .tuple #[.agg #[.int .i64 t, .int .u64 N, .string ⟨#[]⟩], .int .i64 0]) (by simp [*, results, Tryz.results193, go_sem]) rfl (RetV.mk' E.out.1 E.out.2 (by (repeat (with_reducible first | exact Fr.refl _ | assumption | refine Fr.alloc ?_ _ | refine Fr.drew ?_ | refine Fr.drewN ?_ _ | refine Fr.set ?_ (by first | (simp; done) | (simp; omega)) _ | refine Fr.trans ?_ (by assumption)))))
      · have hch' : (chkV ⟨t, N, noB⟩ != 0) = true := bne_true hch
        obtain ⟨e1, e2⟩ := hD.out.2 hch
        have E := Lib.hid (And.intro e1 e2)
        clear hch hD e1 e2
        go_wp2_with fail
        exact bodyPost_ret (v := .tuple #[.agg #[.int .i64 0, .int .u64 0, .string ⟨#[]⟩], .int .i64 8]) (by simp [*, results, Tryz.results193, go_sem]) rfl (RetV.mk' E.out.1 E.out.2 (by (repeat (with_reducible first | exact Fr.refl _ | assumption | refine Fr.alloc ?_ _ | refine Fr.drew ?_ | refine Fr.drewN ?_ _ | refine Fr.set ?_ (by first | (simp; done) | (simp; omega)) _ | refine Fr.trans ?_ (by assumption)))))

set_option maxHeartbeats 1000000 in
theorem dec_1f (t : Int) (l : List UInt8) (b o c : Nat) (hl : l.length = 1) (hs : szOf t = 1) (hg : sgOf t = false) (hi : isOf t = true) (hc2 : 1 ≤ c) (w : World) (hb : b < w.heap.size)
    (hx : ∀ k, k < 1 → w.cell? ⟨b, o + k, none⟩ = some (.int .u8 (l.getD k 0).toNat)) :
    Calls Tryz.prog 193 #[.int .i64 t, .slice (some ⟨b, o, none⟩) 1 c] w fun e w' => RetV (decV t l) (decE t l) w e w' := by
  have H := of_any t
  rw [hs, hg, hi] at H
  have hwf := wideV_wf t l (by rw [hl, hs]; rfl)
  have hD := Lib.hid (dec_num t l (by rw [hl, hs]; rfl) (by rw [hs]; omega))
  have hN := wide_f (l := l) hs hg
  clear hs hg hi
  have HN := Lib.hid hN
  have HX := Lib.hid hx
  have HW := Lib.hid hwf
  have HL := Lib.hid hl
  clear hN hx hl hwf
  go_enter Tryz.func193, Tryz.ntmps193
  go_wp2_with (first | (go_at_call 154; refine (H _).mono ?_; rintro e w1 ⟨rfl, hF1⟩; have hz1 := hF1.size; (try simp at hz1); (try (have hz1_0 : w.heap.size < w1.heap.size := (by omega))); (try (have hz1_1 : b < w1.heap.size := (by omega))); have hc1 := hF1.cells; have hf1 := hF1.froz))
  go_loopw [8, 9, 17] (fun _ _ i wr => ∃ k q : Nat, k ≤ 1 ∧ i = .int .i64 k ∧ wr = ((w1.alloc (.cells #[.int .i64 1, .bool false, .bool true] 237)).alloc (.cells #[.int .i64 t, .int .u64 (leN (l.take k)), .string ⟨#[]⟩] 44)).drewN q) (fun _ _ i _ => 1 - (intOf i).toNat)
  case atStart => exact ⟨0, 0, by omega, rfl, rfl⟩
  case round =>
    obtain ⟨k, q, hk, rfl, rfl⟩ := hrel
    by_cases hlt : k < 1
    · have hx := HX.out k hlt
      have hx2 : w1.cell? ⟨b, o + k, none⟩ = some (.int .u8 (l.getD k 0).toNat) := by rw [hc1 _ _ (by simp; omega), World.cell?_alloc_past _ _ _ hb]; exact hx
      have hx3 := (l.getD k 0).toNat_lt
      have hm := leN_take_lt l k (by rw [HL.out]; omega)
      have hst := Lib.hid (leN_take l k (by rw [HL.out]; omega))
      have hor := Lib.hid (or_step _ _ k hm hx3 (by omega))
      generalize (l.getD k 0).toNat = x at *
      generalize leN (l.take k) = m at *
      clear hm
      go_wp2_with fail
      go_region
      rw [hor.out, ← hst.out]
      go_wp2
      go_roundw
      case rel => exact ⟨k + 1, q + 1, by omega, by go_num, rfl⟩
      case measure => simp [intOf]; omega
    · obtain rfl : k = 1 := by omega
      have hm := leN_take_lt l 1 (by rw [HL.out]; omega)
      rw [show l.take 1 = l from List.take_of_length_le (by rw [HL.out]; omega)] at *
      generalize hmm : leN l = m at *
      go_wp2_with fail
      rw [← HN.out]
      have hwf := HW.out
      generalize hNN : wideV t l = N at *
      clear HN
      refine (check_any ⟨t, N, noB⟩ hwf _).mono ?_
      rintro e w2 ⟨rfl, hF2⟩
      (have hz2 := hF2.size; (try simp at hz2); (try (have hz2_0 : w.heap.size < w2.heap.size := (by omega))); (try (have hz2_1 : w1.heap.size < w2.heap.size := (by omega))); (try (have hz2_2 : w1.heap.size + 1 < w2.heap.size := (by omega))); have hc2 := hF2.cells; have hf2 := hF2.froz; have hg2_0 : ∀ o, w2.frozen? ⟨w.heap.size, o, none⟩ = false := (by intro o; rw [hf2 _ _ (by first | (simp; done) | (simp; omega) | omega)]; (first | (simp; done) | (simp [*]; done) | go_simp)); have hk2_0 : w2.cell? ⟨w.heap.size, 0, none⟩ = some (.int .i64 0) := (by rw [hc2 _ _ (by first | (simp; done) | (simp; omega) | omega)]; (first | (simp; done) | (simp [*]; done) | go_simp)); have hk2_1 : w2.cell? ⟨w.heap.size, 1, none⟩ = some (.int .u64 0) := (by rw [hc2 _ _ (by first | (simp; done) | (simp; omega) | omega)]; (first | (simp; done) | (simp [*]; done) | go_simp)); have hk2_2 : w2.cell? ⟨w.heap.size, 2, none⟩ = some (.string ⟨#[]⟩) := (by rw [hc2 _ _ (by first | (simp; done) | (simp; omega) | omega)]; (first | (simp; done) | (simp [*]; done) | go_simp)); have hg2_3 : ∀ o, w2.frozen? ⟨w1.heap.size + 1, o, none⟩ = false := (by intro o; rw [hf2 _ _ (by first | (simp; done) | (simp; omega) | omega)]; (first | (simp; done) | (simp [*]; done) | go_simp)); have hk2_3 : w2.cell? ⟨w1.heap.size + 1, 0, none⟩ = some (.int .i64 t) := (by rw [hc2 _ _ (by first | (simp; done) | (simp; omega) | omega)]; (first | (simp; done) | (simp [*]; done) | go_simp)); have hk2_4 : w2.cell? ⟨w1.heap.size + 1, 1, none⟩ = some (.int .u64 N) := (by rw [hc2 _ _ (by first | (simp; done) | (simp; omega) | omega)]; (first | (simp; done) | (simp [*]; done) | go_simp)); have hk2_5 : w2.cell? ⟨w1.heap.size + 1, 2, none⟩ = some (.string ⟨#[]⟩) := (by rw [hc2 _ _ (by first | (simp; done) | (simp; omega) | omega)]; (first | (simp; done) | (simp [*]; done) | go_simp)))
      by_cases hch : chkV ⟨t, N, noB⟩ = 0
      · have hch' : (chkV ⟨t, N, noB⟩ != 0) = false := bne_false hch
        obtain ⟨e1, e2⟩ := hD.out.1 hch
        have E := Lib.hid (And.intro e1 e2)
        clear hch hD e1 e2
        go_wp2_with fail
        exact bodyPost_ret (v := .tuple #[.agg #[.int .i64 t, .int .u64 N, .string ⟨#[]⟩], .int .i64 0]) (by simp [*, results, Tryz.results193, go_sem]) rfl (RetV.mk' E.out.1 E.out.2 (by (repeat (with_reducible first | exact Fr.refl _ | assumption | refine Fr.alloc ?_ _ | refine Fr.drew ?_ | refine Fr.drewN ?_ _ | refine Fr.set ?_ (by first | (simp; done) | (simp; omega)) _ | refine Fr.trans ?_ (by assumption)))))
      · have hch' : (chkV ⟨t, N, noB⟩ != 0) = true := bne_true hch
        obtain ⟨e1, e2⟩ := hD.out.2 hch
        have E := Lib.hid (And.intro e1 e2)
        clear hch hD e1 e2
        go_wp2_with fail
        exact bodyPost_ret (v := .tuple #[.agg #[.int .i64 0, .int .u64 0, .string ⟨#[]⟩], .int .i64 8]) (by simp [*, results, Tryz.results193, go_sem]) rfl (RetV.mk' E.out.1 E.out.2 (by (repeat (with_reducible first | exact Fr.refl _ | assumption | refine Fr.alloc ?_ _ | refine Fr.drew ?_ | refine Fr.drewN ?_ _ | refine Fr.set ?_ (by first | (simp; done) | (simp; omega)) _ | refine Fr.trans ?_ (by assumption)))))

set_option maxHeartbeats 1000000 in
theorem dec_2t (t : Int) (l : List UInt8) (b o c : Nat) (hl : l.length = 2) (hs : szOf t = 2) (hg : sgOf t = true) (hi : isOf t = true) (hc2 : 2 ≤ c) (w : World) (hb : b < w.heap.size)
    (hx : ∀ k, k < 2 → w.cell? ⟨b, o + k, none⟩ = some (.int .u8 (l.getD k 0).toNat)) :
    Calls Tryz.prog 193 #[.int .i64 t, .slice (some ⟨b, o, none⟩) 2 c] w fun e w' => RetV (decV t l) (decE t l) w e w' := by
  have H := of_any t
  rw [hs, hg, hi] at H
  have hwf := wideV_wf t l (by rw [hl, hs]; rfl)
  have hD := Lib.hid (dec_num t l (by rw [hl, hs]; rfl) (by rw [hs]; omega))
  have hN := wide_t (l := l) hs hg
  clear hs hg hi
  have HN := Lib.hid hN
  have HX := Lib.hid hx
  have HW := Lib.hid hwf
  have HL := Lib.hid hl
  clear hN hx hl hwf
  go_enter Tryz.func193, Tryz.ntmps193
  go_wp2_with (first | (go_at_call 154; refine (H _).mono ?_; rintro e w1 ⟨rfl, hF1⟩; have hz1 := hF1.size; (try simp at hz1); (try (have hz1_0 : w.heap.size < w1.heap.size := (by omega))); (try (have hz1_1 : b < w1.heap.size := (by omega))); have hc1 := hF1.cells; have hf1 := hF1.froz))
  go_loopw [8, 9, 17] (fun _ _ i wr => ∃ k q : Nat, k ≤ 2 ∧ i = .int .i64 k ∧ wr = ((w1.alloc (.cells #[.int .i64 2, .bool true, .bool true] 237)).alloc (.cells #[.int .i64 t, .int .u64 (leN (l.take k)), .string ⟨#[]⟩] 44)).drewN q) (fun _ _ i _ => 2 - (intOf i).toNat)
  case atStart => exact ⟨0, 0, by omega, rfl, rfl⟩
  case round =>
    obtain ⟨k, q, hk, rfl, rfl⟩ := hrel
    by_cases hlt : k < 2
    · have hx := HX.out k hlt
      have hx2 : w1.cell? ⟨b, o + k, none⟩ = some (.int .u8 (l.getD k 0).toNat) := by rw [hc1 _ _ (by simp; omega), World.cell?_alloc_past _ _ _ hb]; exact hx
      have hx3 := (l.getD k 0).toNat_lt
      have hm := leN_take_lt l k (by rw [HL.out]; omega)
      have hst := Lib.hid (leN_take l k (by rw [HL.out]; omega))
      have hor := Lib.hid (or_step _ _ k hm hx3 (by omega))
      generalize (l.getD k 0).toNat = x at *
      generalize leN (l.take k) = m at *
      clear hm
      go_wp2_with fail
      go_region
      rw [hor.out, ← hst.out]
      go_wp2
      go_roundw
      case rel => exact ⟨k + 1, q + 1, by omega, by go_num, rfl⟩
      case measure => simp [intOf]; omega
    · obtain rfl : k = 2 := by omega
      have hm := leN_take_lt l 2 (by rw [HL.out]; omega)
      rw [show l.take 2 = l from List.take_of_length_le (by rw [HL.out]; omega)] at *
      generalize hmm : leN l = m at *
      go_wp2_with fail
      rw [sgx_2 m hm]
      rw [← HN.out]
      have hwf := HW.out
      generalize hNN : wideV t l = N at *
      clear HN
      refine (check_any ⟨t, N, noB⟩ hwf _).mono ?_
      rintro e w2 ⟨rfl, hF2⟩
      (have hz2 := hF2.size; (try simp at hz2); (try (have hz2_0 : w.heap.size < w2.heap.size := (by omega))); (try (have hz2_1 : w1.heap.size < w2.heap.size := (by omega))); (try (have hz2_2 : w1.heap.size + 1 < w2.heap.size := (by omega))); have hc2 := hF2.cells; have hf2 := hF2.froz; have hg2_0 : ∀ o, w2.frozen? ⟨w.heap.size, o, none⟩ = false := (by intro o; rw [hf2 _ _ (by first | (simp; done) | (simp; omega) | omega)]; (first | (simp; done) | (simp [*]; done) | go_simp)); have hk2_0 : w2.cell? ⟨w.heap.size, 0, none⟩ = some (.int .i64 0) := (by rw [hc2 _ _ (by first | (simp; done) | (simp; omega) | omega)]; (first | (simp; done) | (simp [*]; done) | go_simp)); have hk2_1 : w2.cell? ⟨w.heap.size, 1, none⟩ = some (.int .u64 0) := (by rw [hc2 _ _ (by first | (simp; done) | (simp; omega) | omega)]; (first | (simp; done) | (simp [*]; done) | go_simp)); have hk2_2 : w2.cell? ⟨w.heap.size, 2, none⟩ = some (.string ⟨#[]⟩) := (by rw [hc2 _ _ (by first | (simp; done) | (simp; omega) | omega)]; (first | (simp; done) | (simp [*]; done) | go_simp)); have hg2_3 : ∀ o, w2.frozen? ⟨w1.heap.size + 1, o, none⟩ = false := (by intro o; rw [hf2 _ _ (by first | (simp; done) | (simp; omega) | omega)]; (first | (simp; done) | (simp [*]; done) | go_simp)); have hk2_3 : w2.cell? ⟨w1.heap.size + 1, 0, none⟩ = some (.int .i64 t) := (by rw [hc2 _ _ (by first | (simp; done) | (simp; omega) | omega)]; (first | (simp; done) | (simp [*]; done) | go_simp)); have hk2_4 : w2.cell? ⟨w1.heap.size + 1, 1, none⟩ = some (.int .u64 N) := (by rw [hc2 _ _ (by first | (simp; done) | (simp; omega) | omega)]; (first | (simp; done) | (simp [*]; done) | go_simp)); have hk2_5 : w2.cell? ⟨w1.heap.size + 1, 2, none⟩ = some (.string ⟨#[]⟩) := (by rw [hc2 _ _ (by first | (simp; done) | (simp; omega) | omega)]; (first | (simp; done) | (simp [*]; done) | go_simp)))
      by_cases hch : chkV ⟨t, N, noB⟩ = 0
      · have hch' : (chkV ⟨t, N, noB⟩ != 0) = false := bne_false hch
        obtain ⟨e1, e2⟩ := hD.out.1 hch
        have E := Lib.hid (And.intro e1 e2)
        clear hch hD e1 e2
        go_wp2_with fail
        exact bodyPost_ret (v := .tuple #[.agg #[.int .i64 t, .int .u64 N, .string ⟨#[]⟩], .int .i64 0]) (by simp [*, results, Tryz.results193, go_sem]) rfl (RetV.mk' E.out.1 E.out.2 (by (repeat (with_reducible first | exact Fr.refl _ | assumption | refine Fr.alloc ?_ _ | refine Fr.drew ?_ | refine Fr.drewN ?_ _ | refine Fr.set ?_ (by first | (simp; done) | (simp; omega)) _ | refine Fr.trans ?_ (by assumption)))))
      · have hch' : (chkV ⟨t, N, noB⟩ != 0) = true := bne_true hch
        obtain ⟨e1, e2⟩ := hD.out.2 hch
        have E := Lib.hid (And.intro e1 e2)
        clear hch hD e1 e2
        go_wp2_with fail
        exact bodyPost_ret (v := .tuple #[.agg #[.int .i64 0, .int .u64 0, .string ⟨#[]⟩], .int .i64 8]) (by simp [*, results, Tryz.results193, go_sem]) rfl (RetV.mk' E.out.1 E.out.2 (by (repeat (with_reducible first | exact Fr.refl _ | assumption | refine Fr.alloc ?_ _ | refine Fr.drew ?_ | refine Fr.drewN ?_ _ | refine Fr.set ?_ (by first | (simp; done) | (simp; omega)) _ | refine Fr.trans ?_ (by assumption)))))

set_option maxHeartbeats 1000000 in
theorem dec_2f (t : Int) (l : List UInt8) (b o c : Nat) (hl : l.length = 2) (hs : szOf t = 2) (hg : sgOf t = false) (hi : isOf t = true) (hc2 : 2 ≤ c) (w : World) (hb : b < w.heap.size)
    (hx : ∀ k, k < 2 → w.cell? ⟨b, o + k, none⟩ = some (.int .u8 (l.getD k 0).toNat)) :
    Calls Tryz.prog 193 #[.int .i64 t, .slice (some ⟨b, o, none⟩) 2 c] w fun e w' => RetV (decV t l) (decE t l) w e w' := by
  have H := of_any t
  rw [hs, hg, hi] at H
  have hwf := wideV_wf t l (by rw [hl, hs]; rfl)
  have hD := Lib.hid (dec_num t l (by rw [hl, hs]; rfl) (by rw [hs]; omega))
  have hN := wide_f (l := l) hs hg
  clear hs hg hi
  have HN := Lib.hid hN
  have HX := Lib.hid hx
  have HW := Lib.hid hwf
  have HL := Lib.hid hl
  clear hN hx hl hwf
  go_enter Tryz.func193, Tryz.ntmps193
  go_wp2_with (first | (go_at_call 154; refine (H _).mono ?_; rintro e w1 ⟨rfl, hF1⟩; have hz1 := hF1.size; (try simp at hz1); (try (have hz1_0 : w.heap.size < w1.heap.size := (by omega))); (try (have hz1_1 : b < w1.heap.size := (by omega))); have hc1 := hF1.cells; have hf1 := hF1.froz))
  go_loopw [8, 9, 17] (fun _ _ i wr => ∃ k q : Nat, k ≤ 2 ∧ i = .int .i64 k ∧ wr = ((w1.alloc (.cells #[.int .i64 2, .bool false, .bool true] 237)).alloc (.cells #[.int .i64 t, .int .u64 (leN (l.take k)), .string ⟨#[]⟩] 44)).drewN q) (fun _ _ i _ => 2 - (intOf i).toNat)
  case atStart => exact ⟨0, 0, by omega, rfl, rfl⟩
  case round =>
    obtain ⟨k, q, hk, rfl, rfl⟩ := hrel
    by_cases hlt : k < 2
    · have hx := HX.out k hlt
      have hx2 : w1.cell? ⟨b, o + k, none⟩ = some (.int .u8 (l.getD k 0).toNat) := by rw [hc1 _ _ (by simp; omega), World.cell?_alloc_past _ _ _ hb]; exact hx
      have hx3 := (l.getD k 0).toNat_lt
      have hm := leN_take_lt l k (by rw [HL.out]; omega)
      have hst := Lib.hid (leN_take l k (by rw [HL.out]; omega))
      have hor := Lib.hid (or_step _ _ k hm hx3 (by omega))
      generalize (l.getD k 0).toNat = x at *
      generalize leN (l.take k) = m at *
      clear hm
      go_wp2_with fail
      go_region
      rw [hor.out, ← hst.out]
      go_wp2
      go_roundw
      case rel => exact ⟨k + 1, q + 1, by omega, by go_num, rfl⟩
      case measure => simp [intOf]; omega
    · obtain rfl : k = 2 := by omega
      have hm := leN_take_lt l 2 (by rw [HL.out]; omega)
      rw [show l.take 2 = l from List.take_of_length_le (by rw [HL.out]; omega)] at *
      generalize hmm : leN l = m at *
      go_wp2_with fail
      rw [← HN.out]
      have hwf := HW.out
      generalize hNN : wideV t l = N at *
      clear HN
      refine (check_any ⟨t, N, noB⟩ hwf _).mono ?_
      rintro e w2 ⟨rfl, hF2⟩
      (have hz2 := hF2.size; (try simp at hz2); (try (have hz2_0 : w.heap.size < w2.heap.size := (by omega))); (try (have hz2_1 : w1.heap.size < w2.heap.size := (by omega))); (try (have hz2_2 : w1.heap.size + 1 < w2.heap.size := (by omega))); have hc2 := hF2.cells; have hf2 := hF2.froz; have hg2_0 : ∀ o, w2.frozen? ⟨w.heap.size, o, none⟩ = false := (by intro o; rw [hf2 _ _ (by first | (simp; done) | (simp; omega) | omega)]; (first | (simp; done) | (simp [*]; done) | go_simp)); have hk2_0 : w2.cell? ⟨w.heap.size, 0, none⟩ = some (.int .i64 0) := (by rw [hc2 _ _ (by first | (simp; done) | (simp; omega) | omega)]; (first | (simp; done) | (simp [*]; done) | go_simp)); have hk2_1 : w2.cell? ⟨w.heap.size, 1, none⟩ = some (.int .u64 0) := (by rw [hc2 _ _ (by first | (simp; done) | (simp; omega) | omega)]; (first | (simp; done) | (simp [*]; done) | go_simp)); have hk2_2 : w2.cell? ⟨w.heap.size, 2, none⟩ = some (.string ⟨#[]⟩) := (by rw [hc2 _ _ (by first | (simp; done) | (simp; omega) | omega)]; (first | (simp; done) | (simp [*]; done) | go_simp)); have hg2_3 : ∀ o, w2.frozen? ⟨w1.heap.size + 1, o, none⟩ = false := (by intro o; rw [hf2 _ _ (by first | (simp; done) | (simp; omega) | omega)]; (first | (simp; done) | (simp [*]; done) | go_simp)); have hk2_3 : w2.cell? ⟨w1.heap.size + 1, 0, none⟩ = some (.int .i64 t) := (by rw [hc2 _ _ (by first | (simp; done) | (simp; omega) | omega)]; (first | (simp; done) | (simp [*]; done) | go_simp)); have hk2_4 : w2.cell? ⟨w1.heap.size + 1, 1, none⟩ = some (.int .u64 N) := (by rw [hc2 _ _ (by first | (simp; done) | (simp; omega) | omega)]; (first | (simp; done) | (simp [*]; done) | go_simp)); have hk2_5 : w2.cell? ⟨w1.heap.size + 1, 2, none⟩ = some (.string ⟨#[]⟩) := (by rw [hc2 _ _ (by first | (simp; done) | (simp; omega) | omega)]; (first | (simp; done) | (simp [*]; done) | go_simp)))
      by_cases hch : chkV ⟨t, N, noB⟩ = 0
      · have hch' : (chkV ⟨t, N, noB⟩ != 0) = false := bne_false hch
        obtain ⟨e1, e2⟩ := hD.out.1 hch
        have E := Lib.hid (And.intro e1 e2)
        clear hch hD e1 e2
        go_wp2_with fail
        exact bodyPost_ret (v := .tuple #[.agg #[.int .i64 t, .int .u64 N, .string ⟨#[]⟩], .int .i64 0]) (by simp [*, results, Tryz.results193, go_sem]) rfl (RetV.mk' E.out.1 E.out.2 (by (repeat (with_reducible first | exact Fr.refl _ | assumption | refine Fr.alloc ?_ _ | refine Fr.drew ?_ | refine Fr.drewN ?_ _ | refine Fr.set ?_ (by first | (simp; done) | (simp; omega)) _ | refine Fr.trans ?_ (by assumption)))))
      · have hch' : (chkV ⟨t, N, noB⟩ != 0) = true := bne_true hch
        obtain ⟨e1, e2⟩ := hD.out.2 hch
        have E := Lib.hid (And.intro e1 e2)
        clear hch hD e1 e2
        go_wp2_with fail
        exact bodyPost_ret (v := .tuple #[.agg #[.int .i64 0, .int .u64 0, .string ⟨#[]⟩], .int .i64 8]) (by simp [*, results, Tryz.results193, go_sem]) rfl (RetV.mk' E.out.1 E.out.2 (by (repeat (with_reducible first | exact Fr.refl _ | assumption | refine Fr.alloc ?_ _ | refine Fr.drew ?_ | refine Fr.drewN ?_ _ | refine Fr.set ?_ (by first | (simp; done) | (simp; omega)) _ | refine Fr.trans ?_ (by assumption)))))

set_option maxHeartbeats 1000000 in
theorem dec_4t (t : Int) (l : List UInt8) (b o c : Nat) (hl : l.length = 4) (hs : szOf t = 4) (hg : sgOf t = true) (hi : isOf t = true) (hc2 : 4 ≤ c) (w : World) (hb : b < w.heap.size)
    (hx : ∀ k, k < 4 → w.cell? ⟨b, o + k, none⟩ = some (.int .u8 (l.getD k 0).toNat)) :
    Calls Tryz.prog 193 #[.int .i64 t, .slice (some ⟨b, o, none⟩) 4 c] w fun e w' => RetV (decV t l) (decE t l) w e w' := by
  have H := of_any t
  rw [hs, hg, hi] at H
  have hwf := wideV_wf t l (by rw [hl, hs]; rfl)
  have hD := Lib.hid (dec_num t l (by rw [hl, hs]; rfl) (by rw [hs]; omega))
  have hN := wide_t (l := l) hs hg
  clear hs hg hi
  have HN := Lib.hid hN
  have HX := Lib.hid hx
  have HW := Lib.hid hwf
  have HL := Lib.hid hl
  clear hN hx hl hwf
  go_enter Tryz.func193, Tryz.ntmps193
  go_wp2_with (first | (go_at_call 154; refine (H _).mono ?_; rintro e w1 ⟨rfl, hF1⟩; have hz1 := hF1.size; (try simp at hz1); (try (have hz1_0 : w.heap.size < w1.heap.size := (by omega))); (try (have hz1_1 : b < w1.heap.size := (by omega))); have hc1 := hF1.cells; have hf1 := hF1.froz))
  go_loopw [8, 9, 17] (fun _ _ i wr => ∃ k q : Nat, k ≤ 4 ∧ i = .int .i64 k ∧ wr = ((w1.alloc (.cells #[.int .i64 4, .bool true, .bool true] 237)).alloc (.cells #[.int .i64 t, .int .u64 (leN (l.take k)), .string ⟨#[]⟩] 44)).drewN q) (fun _ _ i _ => 4 - (intOf i).toNat)
  case atStart => exact ⟨0, 0, by omega, rfl, rfl⟩
  case round =>
    obtain ⟨k, q, hk, rfl, rfl⟩ := hrel
    by_cases hlt : k < 4
    · have hx := HX.out k hlt
      have hx2 : w1.cell? ⟨b, o + k, none⟩ = some (.int .u8 (l.getD k 0).toNat) := by rw [hc1 _ _ (by simp; omega), World.cell?_alloc_past _ _ _ hb]; exact hx
      have hx3 := (l.getD k 0).toNat_lt
      have hm := leN_take_lt l k (by rw [HL.out]; omega)
      have hst := Lib.hid (leN_take l k (by rw [HL.out]; omega))
      have hor := Lib.hid (or_step _ _ k hm hx3 (by omega))
      generalize (l.getD k 0).toNat = x at *
      generalize leN (l.take k) = m at *
      clear hm
      go_wp2_with fail
      go_region
      rw [hor.out, ← hst.out]
      go_wp2
      go_roundw
      case rel => exact ⟨k + 1, q + 1, by omega, by go_num, rfl⟩
      case measure => simp [intOf]; omega
    · obtain rfl : k = 4 := by omega
      have hm := leN_take_lt l 4 (by rw [HL.out]; omega)
      rw [show l.take 4 = l from List.take_of_length_le (by rw [HL.out]; omega)] at *
      generalize hmm : leN l = m at *
      go_wp2_with fail
      rw [sgx_4 m hm]
      rw [← HN.out]
      have hwf := HW.out
      generalize hNN : wideV t l = N at *
      clear HN
      refine (check_any ⟨t, N, noB⟩ hwf _).mono ?_
      rintro e w2 ⟨rfl, hF2⟩
      (have hz2 := hF2.size; (try simp at hz2); (try (have hz2_0 : w.heap.size < w2.heap.size := (by omega))); (try (have hz2_1 : w1.heap.size < w2.heap.size := (by omega))); (try (have hz2_2 : w1.heap.size + 1 < w2.heap.size := (by omega))); have hc2 := hF2.cells; have hf2 := hF2.froz; have hg2_0 : ∀ o, w2.frozen? ⟨w.heap.size, o, none⟩ = false := (by intro o; rw [hf2 _ _ (by first | (simp; done) | (simp; omega) | omega)]; (first | (simp; done) | (simp [*]; done) | go_simp)); have hk2_0 : w2.cell? ⟨w.heap.size, 0, none⟩ = some (.int .i64 0) := (by rw [hc2 _ _ (by first | (simp; done) | (simp; omega) | omega)]; (first | (simp; done) | (simp [*]; done) | go_simp)); have hk2_1 : w2.cell? ⟨w.heap.size, 1, none⟩ = some (.int .u64 0) := (by rw [hc2 _ _ (by first | (simp; done) | (simp; omega) | omega)]; (first | (simp; done) | (simp [*]; done) | go_simp)); have hk2_2 : w2.cell? ⟨w.heap.size, 2, none⟩ = some (.string ⟨#[]⟩) := (by rw [hc2 _ _ (by first | (simp; done) | (simp; omega) | omega)]; (first | (simp; done) | (simp [*]; done) | go_simp)); have hg2_3 : ∀ o, w2.frozen? ⟨w1.heap.size + 1, o, none⟩ = false := (by intro o; rw [hf2 _ _ (by first | (simp; done) | (simp; omega) | omega)]; (first | (simp; done) | (simp [*]; done) | go_simp)); have hk2_3 : w2.cell? ⟨w1.heap.size + 1, 0, none⟩ = some (.int .i64 t) := (by rw [hc2 _ _ (by first | (simp; done) | (simp; omega) | omega)]; (first | (simp; done) | (simp [*]; done) | go_simp)); have hk2_4 : w2.cell? ⟨w1.heap.size + 1, 1, none⟩ = some (.int .u64 N) := (by rw [hc2 _ _ (by first | (simp; done) | (simp; omega) | omega)]; (first | (simp; done) | (simp [*]; done) | go_simp)); have hk2_5 : w2.cell? ⟨w1.heap.size + 1, 2, none⟩ = some (.string ⟨#[]⟩) := (by rw [hc2 _ _ (by first | (simp; done) | (simp; omega) | omega)]; (first | (simp; done) | (simp [*]; done) | go_simp)))
      by_cases hch : chkV ⟨t, N, noB⟩ = 0
      · have hch' : (chkV ⟨t, N, noB⟩ != 0) = false := bne_false hch
        obtain ⟨e1, e2⟩ := hD.out.1 hch
        have E := Lib.hid (And.intro e1 e2)
        clear hch hD e1 e2
        go_wp2_with fail
        exact bodyPost_ret (v := .tuple #[.agg #[.int .i64 t, .int .u64 N, .string ⟨#[]⟩], .int .i64 0]) (by simp [*, results, Tryz.results193, go_sem]) rfl (RetV.mk' E.out.1 E.out.2 (by (repeat (with_reducible first | exact Fr.refl _ | assumption | refine Fr.alloc ?_ _ | refine Fr.drew ?_ | refine Fr.drewN ?_ _ | refine Fr.set ?_ (by first | (simp; done) | (simp; omega)) _ | refine Fr.trans ?_ (by assumption)))))
      · have hch' : (chkV ⟨t, N, noB⟩ != 0) = true := bne_true hch
        obtain ⟨e1, e2⟩ := hD.out.2 hch
        have E := Lib.hid (And.intro e1 e2)
        clear hch hD e1 e2
        go_wp2_with fail
        exact bodyPost_ret (v := .tuple #[.agg #[.int .i64 0, .int .u64 0, .string ⟨#[]⟩], .int .i64 8]) (by simp [*, results, Tryz.results193, go_sem]) rfl (RetV.mk' E.out.1 E.out.2 (by (repeat (with_reducible first | exact Fr.refl _ | assumption | refine Fr.alloc ?_ _ | refine Fr.drew ?_ | refine Fr.drewN ?_ _ | refine Fr.set ?_ (by first | (simp; done) | (simp; omega)) _ | refine Fr.trans ?_ (by assumption)))))

set_option maxHeartbeats 1000000 in
theorem dec_4f (t : Int) (l : List UInt8) (b o c : Nat) (hl : l.length = 4) (hs : szOf t = 4) (hg : sgOf t = false) (hi : isOf t = true) (hc2 : 4 ≤ c) (w : World) (hb : b < w.heap.size)
    (hx : ∀ k, k < 4 → w.cell? ⟨b, o + k, none⟩ = some (.int .u8 (l.getD k 0).toNat)) :
    Calls Tryz.prog 193 #[.int .i64 t, .slice (some ⟨b, o, none⟩) 4 c] w fun e w' => RetV (decV t l) (decE t l) w e w' := by
  have H := of_any t
  rw [hs, hg, hi] at H
  have hwf := wideV_wf t l (by rw [hl, hs]; rfl)
  have hD := Lib.hid (dec_num t l (by rw [hl, hs]; rfl) (by rw [hs]; omega))
  have hN := wide_f (l := l) hs hg
  clear hs hg hi
  have HN := Lib.hid hN
  have HX := Lib.hid hx
  have HW := Lib.hid hwf
  have HL := Lib.hid hl
  clear hN hx hl hwf
  go_enter Tryz.func193, Tryz.ntmps193
  go_wp2_with (first | (go_at_call 154; refine (H _).mono ?_; rintro e w1 ⟨rfl, hF1⟩; have hz1 := hF1.size; (try simp at hz1); (try (have hz1_0 : w.heap.size < w1.heap.size := (by omega))); (try (have hz1_1 : b < w1.heap.size := (by omega))); have hc1 := hF1.cells; have hf1 := hF1.froz))
  go_loopw [8, 9, 17] (fun _ _ i wr => ∃ k q : Nat, k ≤ 4 ∧ i = .int .i64 k ∧ wr = ((w1.alloc (.cells #[.int .i64 4, .bool false, .bool true] 237)).alloc (.cells #[.int .i64 t, .int .u64 (leN (l.take k)), .string ⟨#[]⟩] 44)).drewN q) (fun _ _ i _ => 4 - (intOf i).toNat)
  case atStart => exact ⟨0, 0, by omega, rfl, rfl⟩
  case round =>
    obtain ⟨k, q, hk, rfl, rfl⟩ := hrel
    by_cases hlt : k < 4
    · have hx := HX.out k hlt
      have hx2 : w1.cell? ⟨b, o + k, none⟩ = some (.int .u8 (l.getD k 0).toNat) := by rw [hc1 _ _ (by simp; omega), World.cell?_alloc_past _ _ _ hb]; exact hx
      have hx3 := (l.getD k 0).toNat_lt
      have hm := leN_take_lt l k (by rw [HL.out]; omega)
      have hst := Lib.hid (leN_take l k (by rw [HL.out]; omega))
      have hor := Lib.hid (or_step _ _ k hm hx3 (by omega))
      generalize (l.getD k 0).toNat = x at *
      generalize leN (l.take k) = m at *
      clear hm
      go_wp2_with fail
      go_region
      rw [hor.out, ← hst.out]
      go_wp2
      go_roundw
      case rel => exact ⟨k + 1, q + 1, by omega, by go_num, rfl⟩
      case measure => simp [intOf]; omega
    · obtain rfl : k = 4 := by omega
      have hm := leN_take_lt l 4 (by rw [HL.out]; omega)
      rw [show l.take 4 = l from List.take_of_length_le (by rw [HL.out]; omega)] at *
      generalize hmm : leN l = m at *
      go_wp2_with fail
      rw [← HN.out]
      have hwf := HW.out
      generalize hNN : wideV t l = N at *
      clear HN
      refine (check_any ⟨t, N, noB⟩ hwf _).mono ?_
      rintro e w2 ⟨rfl, hF2⟩
      (have hz2 := hF2.size; (try simp at hz2); (try (have hz2_0 : w.heap.size < w2.heap.size := (by omega))); (try (have hz2_1 : w1.heap.size < w2.heap.size := (by omega))); (try (have hz2_2 : w1.heap.size + 1 < w2.heap.size := (by omega))); have hc2 := hF2.cells; have hf2 := hF2.froz; have hg2_0 : ∀ o, w2.frozen? ⟨w.heap.size, o, none⟩ = false := (by intro o; rw [hf2 _ _ (by first | (simp; done) | (simp; omega) | omega)]; (first | (simp; done) | (simp [*]; done) | go_simp)); have hk2_0 : w2.cell? ⟨w.heap.size, 0, none⟩ = some (.int .i64 0) := (by rw [hc2 _ _ (by first | (simp; done) | (simp; omega) | omega)]; (first | (simp; done) | (simp [*]; done) | go_simp)); have hk2_1 : w2.cell? ⟨w.heap.size, 1, none⟩ = some (.int .u64 0) := (by rw [hc2 _ _ (by first | (simp; done) | (simp; omega) | omega)]; (first | (simp; done) | (simp [*]; done) | go_simp)); have hk2_2 : w2.cell? ⟨w.heap.size, 2, none⟩ = some (.string ⟨#[]⟩) := (by rw [hc2 _ _ (by first | (simp; done) | (simp; omega) | omega)]; (first | (simp; done) | (simp [*]; done) | go_simp)); have hg2_3 : ∀ o, w2.frozen? ⟨w1.heap.size + 1, o, none⟩ = false := (by intro o; rw [hf2 _ _ (by first | (simp; done) | (simp; omega) | omega)]; (first | (simp; done) | (simp [*]; done) | go_simp)); have hk2_3 : w2.cell? ⟨w1.heap.size + 1, 0, none⟩ = some (.int .i64 t) := (by rw [hc2 _ _ (by first | (simp; done) | (simp; omega) | omega)]; (first | (simp; done) | (simp [*]; done) | go_simp)); have hk2_4 : w2.cell? ⟨w1.heap.size + 1, 1, none⟩ = some (.int .u64 N) := (by rw [hc2 _ _ (by first | (simp; done) | (simp; omega) | omega)]; (first | (simp; done) | (simp [*]; done) | go_simp)); have hk2_5 : w2.cell? ⟨w1.heap.size + 1, 2, none⟩ = some (.string ⟨#[]⟩) := (by rw [hc2 _ _ (by first | (simp; done) | (simp; omega) | omega)]; (first | (simp; done) | (simp [*]; done) | go_simp)))
      by_cases hch : chkV ⟨t, N, noB⟩ = 0
      · have hch' : (chkV ⟨t, N, noB⟩ != 0) = false := bne_false hch
        obtain ⟨e1, e2⟩ := hD.out.1 hch
        have E := Lib.hid (And.intro e1 e2)
        clear hch hD e1 e2
        go_wp2_with fail
        exact bodyPost_ret (v := .tuple #[.agg #[.int .i64 t, .int .u64 N, .string ⟨#[]⟩], .int .i64 0]) (by simp [*, results, Tryz.results193, go_sem]) rfl (RetV.mk' E.out.1 E.out.2 (by (repeat (with_reducible first | exact Fr.refl _ | assumption | refine Fr.alloc ?_ _ | refine Fr.drew ?_ | refine Fr.drewN ?_ _ | refine Fr.set ?_ (by first | (simp; done) | (simp; omega)) _ | refine Fr.trans ?_ (by assumption)))))
      · have hch' : (chkV ⟨t, N, noB⟩ != 0) = true := bne_true hch
        obtain ⟨e1, e2⟩ := hD.out.2 hch
        have E := Lib.hid (And.intro e1 e2)
        clear hch hD e1 e2
        go_wp2_with fail
        exact bodyPost_ret (v := .tuple #[.agg #[.int .i64 0, .int .u64 0, .string ⟨#[]⟩], .int .i64 8]) (by simp [*, results, Tryz.results193, go_sem]) rfl (RetV.mk' E.out.1 E.out.2 (by (repeat (with_reducible first | exact Fr.refl _ | assumption | refine Fr.alloc ?_ _ | refine Fr.drew ?_ | refine Fr.drewN ?_ _ | refine Fr.set ?_ (by first | (simp; done) | (simp; omega)) _ | refine Fr.trans ?_ (by assumption)))))

set_option maxHeartbeats 1000000 in
theorem dec_8t (t : Int) (l : List UInt8) (b o c : Nat) (hl : l.length = 8) (hs : szOf t = 8) (hg : sgOf t = true) (hi : isOf t = true) (hc2 : 8 ≤ c) (w : World) (hb : b < w.heap.size)
    (hx : ∀ k, k < 8 → w.cell? ⟨b, o + k, none⟩ = some (.int .u8 (l.getD k 0).toNat)) :
    Calls Tryz.prog 193 #[.int .i64 t, .slice (some ⟨b, o, none⟩) 8 c] w fun e w' => RetV (decV t l) (decE t l) w e w' := by
  have H := of_any t
  rw [hs, hg, hi] at H
  have hwf := wideV_wf t l (by rw [hl, hs]; rfl)
  have hD := Lib.hid (dec_num t l (by rw [hl, hs]; rfl) (by rw [hs]; omega))
  have hN := wide_t (l := l) hs hg
  clear hs hg hi
  have HN := Lib.hid hN
  have HX := Lib.hid hx
  have HW := Lib.hid hwf
  have HL := Lib.hid hl
  clear hN hx hl hwf
  go_enter Tryz.func193, Tryz.ntmps193
  go_wp2_with (first | (go_at_call 154; refine (H _).mono ?_; rintro e w1 ⟨rfl, hF1⟩; have hz1 := hF1.size; (try simp at hz1); (try (have hz1_0 : w.heap.size < w1.heap.size := (by omega))); (try (have hz1_1 : b < w1.heap.size := (by omega))); have hc1 := hF1.cells; have hf1 := hF1.froz))
  go_loopw [8, 9, 17] (fun _ _ i wr => ∃ k q : Nat, k ≤ 8 ∧ i = .int .i64 k ∧ wr = ((w1.alloc (.cells #[.int .i64 8, .bool true, .bool true] 237)).alloc (.cells #[.int .i64 t, .int .u64 (leN (l.take k)), .string ⟨#[]⟩] 44)).drewN q) (fun _ _ i _ => 8 - (intOf i).toNat)
  case atStart => exact ⟨0, 0, by omega, rfl, rfl⟩
  case round =>
    obtain ⟨k, q, hk, rfl, rfl⟩ := hrel
    by_cases hlt : k < 8
    · have hx := HX.out k hlt
      have hx2 : w1.cell? ⟨b, o + k, none⟩ = some (.int .u8 (l.getD k 0).toNat) := by rw [hc1 _ _ (by simp; omega), World.cell?_alloc_past _ _ _ hb]; exact hx
      have hx3 := (l.getD k 0).toNat_lt
      have hm := leN_take_lt l k (by rw [HL.out]; omega)
      have hst := Lib.hid (leN_take l k (by rw [HL.out]; omega))
      have hor := Lib.hid (or_step _ _ k hm hx3 (by omega))
      generalize (l.getD k 0).toNat = x at *
      generalize leN (l.take k) = m at *
      clear hm
      go_wp2_with fail
      go_region
      rw [hor.out, ← hst.out]
      go_wp2
      go_roundw
      case rel => exact ⟨k + 1, q + 1, by omega, by go_num, rfl⟩
      case measure => simp [intOf]; omega
    · obtain rfl : k = 8 := by omega
      have hm := leN_take_lt l 8 (by rw [HL.out]; omega)
      rw [show l.take 8 = l from List.take_of_length_le (by rw [HL.out]; omega)] at *
      generalize hmm : leN l = m at *
      go_wp2_with fail
      rw [sgx_8 m hm]
      rw [← HN.out]
      have hwf := HW.out
      generalize hNN : wideV t l = N at *
      clear HN
      refine (check_any ⟨t, N, noB⟩ hwf _).mono ?_
      rintro e w2 ⟨rfl, hF2⟩
      (have hz2 := hF2.size; (try simp at hz2); (try (have hz2_0 : w.heap.size < w2.heap.size := (by omega))); (try (have hz2_1 : w1.heap.size < w2.heap.size := (by omega))); (try (have hz2_2 : w1.heap.size + 1 < w2.heap.size := (by omega))); have hc2 := hF2.cells; have hf2 := hF2.froz; have hg2_0 : ∀ o, w2.frozen? ⟨w.heap.size, o, none⟩ = false := (by intro o; rw [hf2 _ _ (by first | (simp; done) | (simp; omega) | omega)]; (first | (simp; done) | (simp [*]; done) | go_simp)); have hk2_0 : w2.cell? ⟨w.heap.size, 0, none⟩ = some (.int .i64 0) := (by rw [hc2 _ _ (by first | (simp; done) | (simp; omega) | omega)]; (first | (simp; done) | (simp [*]; done) | go_simp)); have hk2_1 : w2.cell? ⟨w.heap.size, 1, none⟩ = some (.int .u64 0) := (by rw [hc2 _ _ (by first | (simp; done) | (simp; omega) | omega)]; (first | (simp; done) | (simp [*]; done) | go_simp)); have hk2_2 : w2.cell? ⟨w.heap.size, 2, none⟩ = some (.string ⟨#[]⟩) := (by rw [hc2 _ _ (by first | (simp; done) | (simp; omega) | omega)]; (first | (simp; done) | (simp [*]; done) | go_simp)); have hg2_3 : ∀ o, w2.frozen? ⟨w1.heap.size + 1, o, none⟩ = false := (by intro o; rw [hf2 _ _ (by first | (simp; done) | (simp; omega) | omega)]; (first | (simp; done) | (simp [*]; done) | go_simp)); have hk2_3 : w2.cell? ⟨w1.heap.size + 1, 0, none⟩ = some (.int .i64 t) := (by rw [hc2 _ _ (by first | (simp; done) | (simp; omega) | omega)]; (first | (simp; done) | (simp [*]; done) | go_simp)); have hk2_4 : w2.cell? ⟨w1.heap.size + 1, 1, none⟩ = some (.int .u64 N) := (by rw [hc2 _ _ (by first | (simp; done) | (simp; omega) | omega)]; (first | (simp; done) | (simp [*]; done) | go_simp)); have hk2_5 : w2.cell? ⟨w1.heap.size + 1, 2, none⟩ = some (.string ⟨#[]⟩) := (by rw [hc2 _ _ (by first | (simp; done) | (simp; omega) | omega)]; (first | (simp; done) | (simp [*]; done) | go_simp)))
      by_cases hch : chkV ⟨t, N, noB⟩ = 0
      · have hch' : (chkV ⟨t, N, noB⟩ != 0) = false := bne_false hch
        obtain ⟨e1, e2⟩ := hD.out.1 hch
        have E := Lib.hid (And.intro e1 e2)
        clear hch hD e1 e2
        go_wp2_with fail
        exact bodyPost_ret (v := .tuple #[.agg #[.int .i64 t, .int .u64 N, .string ⟨#[]⟩], .int .i64 0]) (by simp [*, results, Tryz.results193, go_sem]) rfl (RetV.mk' E.out.1 E.out.2 (by (repeat (with_reducible first | exact Fr.refl _ | assumption | refine Fr.alloc ?_ _ | refine Fr.drew ?_ | refine Fr.drewN ?_ _ | refine Fr.set ?_ (by first | (simp; done) | (simp; omega)) _ | refine Fr.trans ?_ (by assumption)))))
      · have hch' : (chkV ⟨t, N, noB⟩ != 0) = true := bne_true hch
        obtain ⟨e1, e2⟩ := hD.out.2 hch
        have E := Lib.hid (And.intro e1 e2)
        clear hch hD e1 e2
        go_wp2_with fail
        exact bodyPost_ret (v := .tuple #[.agg #[.int .i64 0, .int .u64 0, .string ⟨#[]⟩], .int .i64 8]) (by simp [*, results, Tryz.results193, go_sem]) rfl (RetV.mk' E.out.1 E.out.2 (by (repeat (with_reducible first | exact Fr.refl _ | assumption | refine Fr.alloc ?_ _ | refine Fr.drew ?_ | refine Fr.drewN ?_ _ | refine Fr.set ?_ (by first | (simp; done) | (simp; omega)) _ | refine Fr.trans ?_ (by assumption)))))

set_option maxHeartbeats 1000000 in
theorem dec_8f (t : Int) (l : List UInt8) (b o c : Nat) (hl : l.length = 8) (hs : szOf t = 8) (hg : sgOf t = false) (hi : isOf t = true) (hc2 : 8 ≤ c) (w : World) (hb : b < w.heap.size)
    (hx : ∀ k, k < 8 → w.cell? ⟨b, o + k, none⟩ = some (.int .u8 (l.getD k 0).toNat)) :
    Calls Tryz.prog 193 #[.int .i64 t, .slice (some ⟨b, o, none⟩) 8 c] w fun e w' => RetV (decV t l) (decE t l) w e w' := by
  have H := of_any t
  rw [hs, hg, hi] at H
  have hwf := wideV_wf t l (by rw [hl, hs]; rfl)
  have hD := Lib.hid (dec_num t l (by rw [hl, hs]; rfl) (by rw [hs]; omega))
  have hN := wide_f (l := l) hs hg
  clear hs hg hi
  have HN := Lib.hid hN
  have HX := Lib.hid hx
  have HW := Lib.hid hwf
  have HL := Lib.hid hl
  clear hN hx hl hwf
  go_enter Tryz.func193, Tryz.ntmps193
  go_wp2_with (first | (go_at_call 154; refine (H _).mono ?_; rintro e w1 ⟨rfl, hF1⟩; have hz1 := hF1.size; (try simp at hz1); (try (have hz1_0 : w.heap.size < w1.heap.size := (by omega))); (try (have hz1_1 : b < w1.heap.size := (by omega))); have hc1 := hF1.cells; have hf1 := hF1.froz))
  go_loopw [8, 9, 17] (fun _ _ i wr => ∃ k q : Nat, k ≤ 8 ∧ i = .int .i64 k ∧ wr = ((w1.alloc (.cells #[.int .i64 8, .bool false, .bool true] 237)).alloc (.cells #[.int .i64 t, .int .u64 (leN (l.take k)), .string ⟨#[]⟩] 44)).drewN q) (fun _ _ i _ => 8 - (intOf i).toNat)
  case atStart => exact ⟨0, 0, by omega, rfl, rfl⟩
  case round =>
    obtain ⟨k, q, hk, rfl, rfl⟩ := hrel
    by_cases hlt : k < 8
    · have hx := HX.out k hlt
      have hx2 : w1.cell? ⟨b, o + k, none⟩ = some (.int .u8 (l.getD k 0).toNat) := by rw [hc1 _ _ (by simp; omega), World.cell?_alloc_past _ _ _ hb]; exact hx
      have hx3 := (l.getD k 0).toNat_lt
      have hm := leN_take_lt l k (by rw [HL.out]; omega)
      have hst := Lib.hid (leN_take l k (by rw [HL.out]; omega))
      have hor := Lib.hid (or_step _ _ k hm hx3 (by omega))
      generalize (l.getD k 0).toNat = x at *
      generalize leN (l.take k) = m at *
      clear hm
      go_wp2_with fail
      go_region
      rw [hor.out, ← hst.out]
      go_wp2
      go_roundw
      case rel => exact ⟨k + 1, q + 1, by omega, by go_num, rfl⟩
      case measure => simp [intOf]; omega
    · obtain rfl : k = 8 := by omega
      have hm := leN_take_lt l 8 (by rw [HL.out]; omega)
      rw [show l.take 8 = l from List.take_of_length_le (by rw [HL.out]; omega)] at *
      generalize hmm : leN l = m at *
      go_wp2_with fail
      rw [← HN.out]
      have hwf := HW.out
      generalize hNN : wideV t l = N at *
      clear HN
      refine (check_any ⟨t, N, noB⟩ hwf _).mono ?_
      rintro e w2 ⟨rfl, hF2⟩
      (have hz2 := hF2.size; (try simp at hz2); (try (have hz2_0 : w.heap.size < w2.heap.size := (by omega))); (try (have hz2_1 : w1.heap.size < w2.heap.size := (by omega))); (try (have hz2_2 : w1.heap.size + 1 < w2.heap.size := (by omega))); have hc2 := hF2.cells; have hf2 := hF2.froz; have hg2_0 : ∀ o, w2.frozen? ⟨w.heap.size, o, none⟩ = false := (by intro o; rw [hf2 _ _ (by first | (simp; done) | (simp; omega) | omega)]; (first | (simp; done) | (simp [*]; done) | go_simp)); have hk2_0 : w2.cell? ⟨w.heap.size, 0, none⟩ = some (.int .i64 0) := (by rw [hc2 _ _ (by first | (simp; done) | (simp; omega) | omega)]; (first | (simp; done) | (simp [*]; done) | go_simp)); have hk2_1 : w2.cell? ⟨w.heap.size, 1, none⟩ = some (.int .u64 0) := (by rw [hc2 _ _ (by first | (simp; done) | (simp; omega) | omega)]; (first | (simp; done) | (simp [*]; done) | go_simp)); have hk2_2 : w2.cell? ⟨w.heap.size, 2, none⟩ = some (.string ⟨#[]⟩) := (by rw [hc2 _ _ (by first | (simp; done) | (simp; omega) | omega)]; (first | (simp; done) | (simp [*]; done) | go_simp)); have hg2_3 : ∀ o, w2.frozen? ⟨w1.heap.size + 1, o, none⟩ = false := (by intro o; rw [hf2 _ _ (by first | (simp; done) | (simp; omega) | omega)]; (first | (simp; done) | (simp [*]; done) | go_simp)); have hk2_3 : w2.cell? ⟨w1.heap.size + 1, 0, none⟩ = some (.int .i64 t) := (by rw [hc2 _ _ (by first | (simp; done) | (simp; omega) | omega)]; (first | (simp; done) | (simp [*]; done) | go_simp)); have hk2_4 : w2.cell? ⟨w1.heap.size + 1, 1, none⟩ = some (.int .u64 N) := (by rw [hc2 _ _ (by first | (simp; done) | (simp; omega) | omega)]; (first | (simp; done) | (simp [*]; done) | go_simp)); have hk2_5 : w2.cell? ⟨w1.heap.size + 1, 2, none⟩ = some (.string ⟨#[]⟩) := (by rw [hc2 _ _ (by first | (simp; done) | (simp; omega) | omega)]; (first | (simp; done) | (simp [*]; done) | go_simp)))
      by_cases hch : chkV ⟨t, N, noB⟩ = 0
      · have hch' : (chkV ⟨t, N, noB⟩ != 0) = false := bne_false hch
        obtain ⟨e1, e2⟩ := hD.out.1 hch
        have E := Lib.hid (And.intro e1 e2)
        clear hch hD e1 e2
        go_wp2_with fail
        exact bodyPost_ret (v := .tuple #[.agg #[.int .i64 t, .int .u64 N, .string ⟨#[]⟩], .int .i64 0]) (by simp [*, results, Tryz.results193, go_sem]) rfl (RetV.mk' E.out.1 E.out.2 (by (repeat (with_reducible first | exact Fr.refl _ | assumption | refine Fr.alloc ?_ _ | refine Fr.drew ?_ | refine Fr.drewN ?_ _ | refine Fr.set ?_ (by first | (simp; done) | (simp; omega)) _ | refine Fr.trans ?_ (by assumption)))))
      · have hch' : (chkV ⟨t, N, noB⟩ != 0) = true := bne_true hch
        obtain ⟨e1, e2⟩ := hD.out.2 hch
        have E := Lib.hid (And.intro e1 e2)
        clear hch hD e1 e2
        go_wp2_with fail
        exact bodyPost_ret (v := .tuple #[.agg #[.int .i64 0, .int .u64 0, .string ⟨#[]⟩], .int .i64 8]) (by simp [*, results, Tryz.results193, go_sem]) rfl (RetV.mk' E.out.1 E.out.2 (by (repeat (with_reducible first | exact Fr.refl _ | assumption | refine Fr.alloc ?_ _ | refine Fr.drew ?_ | refine Fr.drewN ?_ _ | refine Fr.set ?_ (by first | (simp; done) | (simp; omega)) _ | refine Fr.trans ?_ (by assumption)))))


end Go.Proofs.YtmllpkpdfhniaaaGreat
