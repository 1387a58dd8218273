/- dcf.Encode joined; dcf.Decode at the bytes of the statements' small living call. dcf.Decode at the bytes of the statements' small living call; tramwaylaw21.lives. -/
import Derived.Test.YtmllpkpdfhniaaaGreatJBEnD
set_option linter.unusedVariables false
set_option linter.unusedSimpArgs false
namespace Go.Proofs.YtmllpkpdfhniaaaGreat
open Go.RowKit Go.Sort

theorem dcfEncode_any (js : List Jt) (v : Value) (w : World) (hR : RdI w v js) (hlen : js.length < 4611686018427387904) :
    Calls Tryz.prog 92 #[v] w fun e w' => ∃ v, e = .returned (.tuple #[v, .int .i64 (encErr (jits js))]) ∧ (encErr (jits js) = 0 → RdB w' v (low4 js.length ++ encL (jits js))) ∧ Fr w w' := by
  have HC := fun w' (hf : Fr w w') => containsI_any js v w' (hR.fr hf) hlen
  obtain ⟨⟨hl, A, c, rfl, hcap, hmax, hx⟩, hbs, hwf⟩ := hR
  unfold encErr
  rw [jits_len]
  by_cases h1 : 1024 < js.length
  · rw [if_pos (.inl h1)]
    exact (encode_long A _ c (by omega) w).mono fun e w' h => ⟨_, h.1, fun hh => absurd hh (by decide), h.2⟩
  · cases hb : (jits js).any bigI
    · rw [if_neg (by simp; omega)]
      rw [hb] at HC
      have hsm : ∀ x ∈ jits js, x.b.length ≤ 65536 := fun x hx => by
        have := List.any_eq_false.1 hb x hx
        unfold bigI at this
        simpa using this
      rcases hx with h0 | ⟨b, o, rfl, hb', hx⟩
      · have : js = [] := List.eq_nil_of_length_eq_zero h0
        subst this
        refine (encode_nil A c w (HC w (Fr.refl w))).mono fun e w' h => ?_
        obtain ⟨v, h1, h2, h3⟩ := h
        exact ⟨v, h1, fun _ => by simpa [encL, jits] using h2, h3⟩
      · refine (encode_walk b o c js w (by omega) hsm hcap hb' hx hbs hwf (HC w (Fr.refl w))).mono fun e w' h => ?_
        obtain ⟨v, h1, h2, h3⟩ := h
        exact ⟨v, h1, fun _ => h2, h3⟩
    · rw [if_pos (.inr rfl)]
      rw [hb] at HC
      -- the closure's answer holds in whatever world comes next
      refine (encode_big' A js.length c (by omega) w (HC w (Fr.refl w))).mono fun e w' h => ⟨_, h.1, fun hh => absurd hh (by decide), h.2⟩

theorem read32_c (b o n c : Nat) (x : Int) (hx : x = 1 ∨ x = 2) (hn : 4 ≤ n) (w : World) (h0 : w.cell? ⟨b, o, none⟩ = some (.int .u8 x)) (h1 : w.cell? ⟨b, o + 1, none⟩ = some (.int .u8 0)) (h2 : w.cell? ⟨b, o + 2, none⟩ = some (.int .u8 0)) (h3 : w.cell? ⟨b, o + 3, none⟩ = some (.int .u8 0)) :
    Calls Tryz.prog 148 #[.slice (some ⟨b, o, none⟩) n c] w fun e w' => e = .returned (.int .u64 x) ∧ Fr w w' := by
  have b1 : bits .or .u64 1 0 = 1 := by decide
  have b2 : bits .or .u64 2 0 = 2 := by decide
  have k1 : (1 : Int) < (n : Int) := by omega
  have k2 : (2 : Int) < (n : Int) := by omega
  have k3 : (3 : Int) < (n : Int) := by omega
  have k0 : (0 : Int) < (n : Int) := by omega
  rcases hx with rfl | rfl
  all_goals
    go_enter Tryz.func148, Tryz.ntmps148
    go_wp2
    go_quiet (fail)
    go_wp2
    go_ret
    exact ⟨rfl, by (repeat (with_reducible first | exact Fr.refl _ | assumption | refine Fr.alloc ?_ _ | refine Fr.drew ?_ | refine Fr.drewN ?_ _ | refine Fr.set ?_ (by first | (simp; done) | (simp; omega)) _ | refine Fr.trans ?_ (by assumption)))⟩

namespace Reg
def Item3.T : Bool × List (List Nat × List Nat) := (true, [([], []), ([0], [0]), ([1], [1]), ([2], [2]), ([], []), ([4], [4]), ([5], [5]), ([6], [6]), ([7], [7]), ([3, 8], [3, 8]), ([], []), ([10], [10]), ([11], [11]), ([9, 12], [9, 12]), ([], []), ([14, 13, 0, 1, 2, 3, 4, 5, 6, 7, 8, 9, 10, 11, 12, 13, 14], [13, 14])])
def Item3.B : List Nat := [0, 1, 3, 7, 0, 16, 48, 112, 240, 511, 0, 1024, 3072, 8191, 0, 32767]
theorem Item3.tab : Reg.rtab .any (Reg.opsOf Tryz.f149 3) = Item3.T := by kernel_rfl
theorem Item3.bits : Reg.waitsOk Item3.T.2 Item3.B = true := by kernel_rfl

def Item11.T : Bool × List (List Nat × List Nat) := (true, [([], []), ([], []), ([], []), ([1, 2], [1, 2]), ([0, 0], [0]), ([3, 4, 0, 1, 2, 3, 4], [3]), ([5, 0, 1, 2, 3, 4, 5], [])])
def Item11.B : List Nat := [0, 0, 0, 6, 1, 31, 63]
theorem Item11.tab : Reg.rtab .any (Reg.opsOf Tryz.f149 11) = Item11.T := by kernel_rfl
theorem Item11.bits : Reg.waitsOk Item11.T.2 Item11.B = true := by kernel_rfl

end Reg
open Reg in
set_option maxRecDepth 100000 in
set_option maxHeartbeats 2000000 in
theorem item_c (b o c : Nat) (hc : 9 ≤ c) (hc2 : c ≤ 9223372036854775807) (w : World) (hb : b < w.heap.size) (hx : ∀ i u, (bcs [0x17, 0x10, 0, 2, 0, 0, 0, 0xe8, 3])[i]? = some u → w.cell? ⟨b, o + i, none⟩ = some u) :
    Calls Tryz.prog 149 #[.slice (some ⟨b, o, none⟩) 9 c] w fun e w' => ∃ A v' A' c', e = .returned (.tuple #[.agg #[.int .u16 4119, .int .u8 0, .slice A 2 v'], .slice A' 0 c', .int .i64 0]) ∧ Fr w w' := by
  have HX := Lib.hid hx
  have c0 : w.cell? ⟨b, o, none⟩ = some (.int .u8 23) := hx 0 _ rfl
  have c1 : w.cell? ⟨b, o + 1, none⟩ = some (.int .u8 16) := hx 1 _ rfl
  have c2 : w.cell? ⟨b, o + 2, none⟩ = some (.int .u8 0) := hx 2 _ rfl
  have c3 : w.cell? ⟨b, o + 3, none⟩ = some (.int .u8 2) := hx 3 _ rfl
  have c4 : w.cell? ⟨b, o + 4, none⟩ = some (.int .u8 0) := hx 4 _ rfl
  have c5 : w.cell? ⟨b, o + 5, none⟩ = some (.int .u8 0) := hx 5 _ rfl
  have c6 : w.cell? ⟨b, o + 6, none⟩ = some (.int .u8 0) := hx 6 _ rfl
  have c7 : w.cell? ⟨b, o + 7, none⟩ = some (.int .u8 232) := hx 7 _ rfl
  have c8 : w.cell? ⟨b, o + 8, none⟩ = some (.int .u8 3) := hx 8 _ rfl
  have mx := mixed
  have bb : bits .or .u16 23 4096 = 4119 := by decide
  have HF : Hid (∀ w', Fr w w' → RdB w' (.slice (some ⟨b, o + 7, none⟩) 2 (c - 7)) [0xe8, 3]) := Lib.hid fun w' hf =>
    ⟨rfl, _, _, rfl, by show 2 ≤ c - 7; omega, by omega, .inr ⟨b, o + 7, rfl, Nat.lt_of_lt_of_le hb hf.size, fun j u hu => hf.cell (by
      have : o + 7 + j = o + (7 + j) := by omega
      rw [this]
      exact hx (7 + j) u (by rw [Nat.add_comm]; exact hu))⟩⟩
  have HR := fun (w' : World) (hf : Fr w w') => read32_c b (o + 3) 6 (c - 3) 2 (.inr rfl) (by omega) w' (hf.cell c3) (hf.cell c4) (hf.cell c5) (hf.cell c6)
  have HCL := fun (w' : World) (hf : Fr w w') => clone_any (.slice (some ⟨b, o + 7, none⟩) 2 (c - 7)) [0xe8, 3] w' (HF.out w' hf) (by decide)
  clear hx
  have k9 : (9 : Int) ≤ (c : Int) := by omega
  have q1 : ¬ c = 3 := by omega
  have q2 : ¬ c = 7 := by omega
  go_enter Tryz.func149, Tryz.ntmps149
  go_wp2
  refine start_ (n := 16) (S := fun w' => w'.cell? ⟨b, o, none⟩ = some (.int .u8 23) ∧ w'.cell? ⟨b, o + 1, none⟩ = some (.int .u8 16) ∧ w'.cell? ⟨b, o + 2, none⟩ = some (.int .u8 0)) (ds := [15]) #[false, false, false, false, false, false, false, false, false, false, false, false, false, false, false, false] (by kernel_rfl) rfl rfl ⟨(((Fr.refl _).alloc _).drew.cell c0), (((Fr.refl _).alloc _).drew.cell c1), (((Fr.refl _).alloc _).drew.cell c2)⟩ (fun hHeld => ?_)
  refine with_tabW Item3.tab Item3.bits (fun HT_ HW_ => ?_)
  refine pure_ (i := 0) (N := some 11) (v := ?_) (a' := ?_) #[true, false, false, false, false, false, false, false, false, false, false, false, false, false, false, false] rfl rfl (any_of HT_.out (by kernel_rfl)) (fun _ _ _ h => h) (Or.inl ⟨by rfl, ?_⟩) ?_ ?_
  rotate_left
  · intro w'
    go_simp
    with_reducible rfl
  rotate_left
  · simp only [Act.put, List.setIfInBounds_toArray, List.set_cons_zero, List.set_cons_succ, i64_w, i32_w]
    rfl
  refine pure_ (i := 1) (N := some 12) (v := ?_) (a' := ?_) #[true, true, false, false, false, false, false, false, false, false, false, false, false, false, false, false] rfl rfl (any_of HT_.out (by kernel_rfl)) (fun _ _ _ h => h) (Or.inl ⟨by rfl, ?_⟩) ?_ ?_
  rotate_left
  · intro w'
    go_simp
    with_reducible rfl
  rotate_left
  · simp only [Act.put, List.setIfInBounds_toArray, List.set_cons_zero, List.set_cons_succ, i64_w, i32_w]
    rfl
  refine pure_ (i := 4) (N := some 15) (v := ?_) (a' := ?_) #[true, true, false, false, true, false, false, false, false, false, false, false, false, false, false, false] rfl rfl (any_of HT_.out (by kernel_rfl)) (fun _ _ _ h => h) (Or.inl ⟨by rfl, ?_⟩) ?_ ?_
  rotate_left
  · intro w'
    go_simp
    with_reducible rfl
  rotate_left
  · simp only [Act.put, List.setIfInBounds_toArray, List.set_cons_zero, List.set_cons_succ, i64_w, i32_w]
    rfl
  refine pure_ (i := 5) (N := some 16) (v := ?_) (a' := ?_) #[true, true, false, false, true, true, false, false, false, false, false, false, false, false, false, false] rfl rfl (any_of HT_.out (by kernel_rfl)) (fun _ _ _ h => h) (Or.inl ⟨by rfl, ?_⟩) ?_ ?_
  rotate_left
  · intro w'
    go_simp
    with_reducible rfl
  rotate_left
  · simp only [Act.put, List.setIfInBounds_toArray, List.set_cons_zero, List.set_cons_succ, i64_w, i32_w]
    rfl
  refine pure_ (i := 10) (N := some 21) (v := ?_) (a' := ?_) #[true, true, false, false, true, true, false, false, false, false, true, false, false, false, false, false] rfl rfl (any_of HT_.out (by kernel_rfl)) (fun _ _ _ h => h) (Or.inl ⟨by rfl, ?_⟩) ?_ ?_
  rotate_left
  · intro w'
    go_simp
    with_reducible rfl
  rotate_left
  · simp only [Act.put, List.setIfInBounds_toArray, List.set_cons_zero, List.set_cons_succ, i64_w, i32_w]
    rfl
  refine pure_ (i := 11) (N := some 22) (v := ?_) (a' := ?_) #[true, true, false, false, true, true, false, false, false, false, true, true, false, false, false, false] rfl rfl (any_of HT_.out (by kernel_rfl)) (fun _ _ _ h => h) (Or.inl ⟨by rfl, ?_⟩) ?_ ?_
  rotate_left
  · intro w'
    go_simp
    with_reducible rfl
  rotate_left
  · simp only [Act.put, List.setIfInBounds_toArray, List.set_cons_zero, List.set_cons_succ, i64_w, i32_w]
    rfl
  refine take_ (i := 2) (N := some 13) (v := ?_) (a' := ?_) #[true, true, true, false, true, true, false, false, false, false, true, true, false, false, false, false] rfl rfl (take_ofW HT_.out HW_.out (by kernel_rfl)) (fun _ _ _ h => h) (Or.inl ⟨by rfl, ?_⟩) hHeld ?_ ?_
  rotate_left
  · rintro w' ⟨s0, s1, s2⟩
    go_simp
    with_reducible rfl
  rotate_left
  · simp only [Act.put, List.setIfInBounds_toArray, List.set_cons_zero, List.set_cons_succ, i64_w, i32_w]
    rfl
  refine pure_ (i := 3) (N := some 14) (v := ?_) (a' := ?_) #[true, true, true, true, true, true, false, false, false, false, true, true, false, false, false, false] rfl rfl (any_of HT_.out (by kernel_rfl)) (fun _ _ _ h => h) (Or.inl ⟨by rfl, ?_⟩) ?_ ?_
  rotate_left
  · intro w'
    go_simp
    with_reducible rfl
  rotate_left
  · simp only [Act.put, List.setIfInBounds_toArray, List.set_cons_zero, List.set_cons_succ, i64_w, i32_w]
    rfl
  refine take_ (i := 6) (N := some 17) (v := ?_) (a' := ?_) #[true, true, true, true, true, true, true, false, false, false, true, true, false, false, false, false] rfl rfl (take_ofW HT_.out HW_.out (by kernel_rfl)) (fun _ _ _ h => h) (Or.inl ⟨by rfl, ?_⟩) hHeld ?_ ?_
  rotate_left
  · rintro w' ⟨s0, s1, s2⟩
    go_simp
    with_reducible rfl
  rotate_left
  · simp only [Act.put, List.setIfInBounds_toArray, List.set_cons_zero, List.set_cons_succ, i64_w, i32_w]
    rfl
  refine pure_ (i := 7) (N := some 18) (v := ?_) (a' := ?_) #[true, true, true, true, true, true, true, true, false, false, true, true, false, false, false, false] rfl rfl (any_of HT_.out (by kernel_rfl)) (fun _ _ _ h => h) (Or.inl ⟨by rfl, ?_⟩) ?_ ?_
  rotate_left
  · intro w'
    go_simp
    with_reducible rfl
  rotate_left
  · simp only [Act.put, List.setIfInBounds_toArray, List.set_cons_zero, List.set_cons_succ, i64_w, i32_w]
    rfl
  refine pure_ (i := 8) (N := some 19) (v := ?_) (a' := ?_) #[true, true, true, true, true, true, true, true, true, false, true, true, false, false, false, false] rfl rfl (any_of HT_.out (by kernel_rfl)) (fun _ _ _ h => h) (Or.inl ⟨by rfl, ?_⟩) ?_ ?_
  rotate_left
  · intro w'
    go_simp
    with_reducible rfl
  rotate_left
  · simp only [Act.put, List.setIfInBounds_toArray, List.set_cons_zero, List.set_cons_succ, i64_w, i32_w]
    rfl
  refine pure_ (i := 9) (N := some 20) (v := ?_) (a' := ?_) #[true, true, true, true, true, true, true, true, true, true, true, true, false, false, false, false] rfl rfl (any_of HT_.out (by kernel_rfl)) (fun _ _ _ h => h) (Or.inl ⟨by rfl, ?_⟩) ?_ ?_
  rotate_left
  · intro w'
    go_simp
    with_reducible rfl
  rotate_left
  · simp only [Act.put, List.setIfInBounds_toArray, List.set_cons_zero, List.set_cons_succ, i64_w, i32_w]
    rfl
  refine take_ (i := 12) (N := some 23) (v := ?_) (a' := ?_) #[true, true, true, true, true, true, true, true, true, true, true, true, true, false, false, false] rfl rfl (take_ofW HT_.out HW_.out (by kernel_rfl)) (fun _ _ _ h => h) (Or.inl ⟨by rfl, ?_⟩) hHeld ?_ ?_
  rotate_left
  · rintro w' ⟨s0, s1, s2⟩
    go_simp
    with_reducible rfl
  rotate_left
  · simp only [Act.put, List.setIfInBounds_toArray, List.set_cons_zero, List.set_cons_succ, i64_w, i32_w]
    rfl
  refine pure_ (i := 13) (N := some 24) (v := ?_) (a' := ?_) #[true, true, true, true, true, true, true, true, true, true, true, true, true, true, false, false] rfl rfl (any_of HT_.out (by kernel_rfl)) (fun _ _ _ h => h) (Or.inl ⟨by rfl, ?_⟩) ?_ ?_
  rotate_left
  · intro w'
    go_simp
    with_reducible rfl
  rotate_left
  · simp only [Act.put, List.setIfInBounds_toArray, List.set_cons_zero, List.set_cons_succ, i64_w, i32_w]
    rfl
  refine one_ (i := 14) (N := some 5) #[true, true, true, true, true, true, true, true, true, true, true, true, true, true, true, false] rfl rfl (one_of HT_.out (by kernel_rfl)) (by decide) (fun K hK => ?_)
  refine value_ (w1 := ?_) (v := ?_) (by rfl) rfl ?_ ?_
  rotate_left 2
  · go_simp
    constructor
    · rfl
    · rfl
  refine hK.out _ _ ⟨(((Fr.refl _).alloc _).cell hHeld.1), (((Fr.refl _).alloc _).cell hHeld.2.1), (((Fr.refl _).alloc _).cell hHeld.2.2)⟩ (fun hHeld => ?_)
  clear hK K
  refine norm_ (a' := ?_) ?_ ?_
  rotate_left
  · show Act.put _ (some 5) _ = _
    simp only [Act.put, List.setIfInBounds_toArray, List.set_cons_zero, List.set_cons_succ, i64_w, i32_w]
    rfl
  refine last_ (i := 15) (N := none) #[true, true, true, true, true, true, true, true, true, true, true, true, true, true, true, true] rfl rfl (one_of HT_.out (by kernel_rfl)) (by decide) (fun K hK => ?_)
  refine skip_ (w1 := ?_) (by rfl) rfl ?_ ?_
  rotate_left
  · go_simp
    rfl
  refine hK.out _ _ ?_
  clear hK K
  refine done_ (done_of HT_.out (by kernel_rfl)) ?_

  go_wp2_with (first | (go_at_call 148; refine (HR _ (by (repeat (with_reducible first | exact Fr.refl _ | assumption | refine Fr.alloc ?_ _ | refine Fr.drew ?_ | refine Fr.drewN ?_ _ | refine Fr.set ?_ (by first | (simp; done) | (simp; omega)) _ | refine Fr.trans ?_ (by assumption))))).mono ?_; rintro e w1 ⟨rfl, hF1⟩; have hz1 := hF1.size; (try simp at hz1); (try (have hz1_0 : w.heap.size < w1.heap.size := (by omega))); (try (have hz1_1 : w.heap.size + 1 < w1.heap.size := (by omega))); have hc1 := hF1.cells; have hf1 := hF1.froz; have hg1_0 : ∀ o, w1.frozen? ⟨w.heap.size, o, none⟩ = false := (by intro o; rw [hf1 _ _ (by first | (simp; done) | (simp; omega) | omega)]; (first | (simp; done) | (simp [*]; done) | go_simp)); have hk1_0 : w1.cell? ⟨w.heap.size, 0, none⟩ = some (.int .u16 0) := (by rw [hc1 _ _ (by first | (simp; done) | (simp; omega) | omega)]; (first | (simp; done) | (simp [*]; done) | go_simp)); have hk1_1 : w1.cell? ⟨w.heap.size, 1, none⟩ = some (.int .u8 0) := (by rw [hc1 _ _ (by first | (simp; done) | (simp; omega) | omega)]; (first | (simp; done) | (simp [*]; done) | go_simp)); have hk1_2 : w1.cell? ⟨w.heap.size, 2, none⟩ = some (.slice none 0 0) := (by rw [hc1 _ _ (by first | (simp; done) | (simp; omega) | omega)]; (first | (simp; done) | (simp [*]; done) | go_simp)); have hg1_3 : ∀ o, w1.frozen? ⟨w.heap.size + 1, o, none⟩ = false := (by intro o; rw [hf1 _ _ (by first | (simp; done) | (simp; omega) | omega)]; (first | (simp; done) | (simp [*]; done) | go_simp)); have hk1_3 : w1.cell? ⟨w.heap.size + 1, 0, none⟩ = some (.int .u16 4119) := (by rw [hc1 _ _ (by first | (simp; done) | (simp; omega) | omega)]; (first | (simp; done) | (simp [*]; done) | go_simp)); have hk1_4 : w1.cell? ⟨w.heap.size + 1, 1, none⟩ = some (.int .u8 0) := (by rw [hc1 _ _ (by first | (simp; done) | (simp; omega) | omega)]; (first | (simp; done) | (simp [*]; done) | go_simp)); have hk1_5 : w1.cell? ⟨w.heap.size + 1, 2, none⟩ = some (.slice none 0 0) := (by rw [hc1 _ _ (by first | (simp; done) | (simp; omega) | omega)]; (first | (simp; done) | (simp [*]; done) | go_simp))) | (go_at_call 98; refine (HCL _ (by (repeat (with_reducible first | exact Fr.refl _ | assumption | refine Fr.alloc ?_ _ | refine Fr.drew ?_ | refine Fr.drewN ?_ _ | refine Fr.set ?_ (by first | (simp; done) | (simp; omega)) _ | refine Fr.trans ?_ (by assumption))))).mono ?_; rintro e w2 ⟨v2, rfl, hO2, hF2⟩; obtain ⟨A2, d2, hv2⟩ := OB.slice hO2; subst hv2; (have hz2 := hF2.size; (try simp at hz2); (try (have hz2_0 : w.heap.size < w2.heap.size := (by omega))); (try (have hz2_1 : w.heap.size + 1 < w2.heap.size := (by omega))); have hc2 := hF2.cells; have hf2 := hF2.froz; have hg2_0 : ∀ o, w2.frozen? ⟨w.heap.size, o, none⟩ = false := (by intro o; rw [hf2 _ _ (by first | (simp; done) | (simp; omega) | omega)]; (first | (simp; done) | (simp [*]; done) | go_simp)); have hk2_0 : w2.cell? ⟨w.heap.size, 0, none⟩ = some (.int .u16 0) := (by rw [hc2 _ _ (by first | (simp; done) | (simp; omega) | omega)]; (first | (simp; done) | (simp [*]; done) | go_simp)); have hk2_1 : w2.cell? ⟨w.heap.size, 1, none⟩ = some (.int .u8 0) := (by rw [hc2 _ _ (by first | (simp; done) | (simp; omega) | omega)]; (first | (simp; done) | (simp [*]; done) | go_simp)); have hk2_2 : w2.cell? ⟨w.heap.size, 2, none⟩ = some (.slice none 0 0) := (by rw [hc2 _ _ (by first | (simp; done) | (simp; omega) | omega)]; (first | (simp; done) | (simp [*]; done) | go_simp)); have hg2_3 : ∀ o, w2.frozen? ⟨w.heap.size + 1, o, none⟩ = false := (by intro o; rw [hf2 _ _ (by first | (simp; done) | (simp; omega) | omega)]; (first | (simp; done) | (simp [*]; done) | go_simp)); have hk2_3 : w2.cell? ⟨w.heap.size + 1, 0, none⟩ = some (.int .u16 4119) := (by rw [hc2 _ _ (by first | (simp; done) | (simp; omega) | omega)]; (first | (simp; done) | (simp [*]; done) | go_simp)); have hk2_4 : w2.cell? ⟨w.heap.size + 1, 1, none⟩ = some (.int .u8 0) := (by rw [hc2 _ _ (by first | (simp; done) | (simp; omega) | omega)]; (first | (simp; done) | (simp [*]; done) | go_simp)); have hk2_5 : w2.cell? ⟨w.heap.size + 1, 2, none⟩ = some (.slice none 0 0) := (by rw [hc2 _ _ (by first | (simp; done) | (simp; omega) | omega)]; (first | (simp; done) | (simp [*]; done) | go_simp)))) | fail)
  by_cases hc9 : c - 7 = 2
  · skip
    refine start_ (n := 7) (S := fun w' => w'.cell? ⟨w.heap.size + 1, 0, none⟩ = some (.int .u16 4119) ∧ w'.cell? ⟨w.heap.size + 1, 1, none⟩ = some (.int .u8 0) ∧ w'.cell? ⟨w.heap.size + 1, 2, none⟩ = some (.slice A2 2 d2)) (ds := [4]) #[false, false, false, false, false, false, false] (by kernel_rfl) rfl rfl ⟨(by go_simp), (by go_simp), (by go_simp)⟩ (fun hHeld => ?_)
    refine with_tabW Item11.tab Item11.bits (fun HT_ HW_ => ?_)
    refine pure_ (i := 1) (N := some 47) (v := ?_) (a' := ?_) #[false, true, false, false, false, false, false] rfl rfl (any_of HT_.out (by kernel_rfl)) (fun _ _ _ h => h) (Or.inl ⟨by rfl, ?_⟩) ?_ ?_
    rotate_left
    · intro w'
      go_simp
      with_reducible rfl
    rotate_left
    · simp only [Act.put, List.setIfInBounds_toArray, List.set_cons_zero, List.set_cons_succ, i64_w, i32_w]
      rfl
    refine pure_ (i := 2) (N := some 48) (v := ?_) (a' := ?_) #[false, true, true, false, false, false, false] rfl rfl (any_of HT_.out (by kernel_rfl)) (fun _ _ _ h => h) (Or.inl ⟨by rfl, ?_⟩) ?_ ?_
    rotate_left
    · intro w'
      go_simp
      with_reducible rfl
    rotate_left
    · simp only [Act.put, List.setIfInBounds_toArray, List.set_cons_zero, List.set_cons_succ, i64_w, i32_w]
      rfl
    refine pure_ (i := 3) (N := some 49) (v := ?_) (a' := ?_) #[false, true, true, true, false, false, false] rfl rfl (any_of HT_.out (by kernel_rfl)) (fun _ _ _ h => h) (Or.inl ⟨by rfl, ?_⟩) ?_ ?_
    rotate_left
    · intro w'
      go_simp
      with_reducible rfl
    rotate_left
    · simp only [Act.put, List.setIfInBounds_toArray, List.set_cons_zero, List.set_cons_succ, i64_w, i32_w]
      rfl
    refine take_ (i := 0) (N := some 46) (v := ?_) (a' := ?_) #[true, true, true, true, false, false, false] rfl rfl (take_ofW HT_.out HW_.out (by kernel_rfl)) (fun _ _ _ h => h) (Or.inl ⟨by rfl, ?_⟩) hHeld ?_ ?_
    rotate_left
    · rintro w' ⟨s0, s1, s2⟩
      go_simp
      with_reducible rfl
    rotate_left
    · simp only [Act.put, List.setIfInBounds_toArray, List.set_cons_zero, List.set_cons_succ, i64_w, i32_w]
      rfl
    refine last_ (i := 4) (N := none) #[true, true, true, true, true, false, false] rfl rfl (one_of HT_.out (by kernel_rfl)) (by decide) (fun K hK => ?_)
    refine skip_ (w1 := ?_) (by rfl) rfl ?_ ?_
    rotate_left
    · go_simp
      rfl
    refine hK.out _ _ ?_
    clear hK K
    refine pure_ (i := 5) (N := some 3) (v := ?_) (a' := ?_) #[true, true, true, true, true, true, false] rfl rfl (any_of HT_.out (by kernel_rfl)) (fun _ _ _ h => h) (Or.inl ⟨by rfl, ?_⟩) ?_ ?_
    rotate_left
    · intro w'
      go_simp
      with_reducible rfl
    rotate_left
    · simp only [Act.put, List.setIfInBounds_toArray, List.set_cons_zero, List.set_cons_succ, i64_w, i32_w]
      rfl
    refine pure_ (i := 6) (N := some 4) (v := ?_) (a' := ?_) #[true, true, true, true, true, true, true] rfl rfl (any_of HT_.out (by kernel_rfl)) (fun _ _ _ h => h) (Or.inl ⟨by rfl, ?_⟩) ?_ ?_
    rotate_left
    · intro w'
      go_simp
      with_reducible rfl
    rotate_left
    · simp only [Act.put, List.setIfInBounds_toArray, List.set_cons_zero, List.set_cons_succ, i64_w, i32_w]
      rfl
    refine done_ (done_of HT_.out (by kernel_rfl)) ?_

    go_wp2
    exact bodyPost_ret (v := .tuple #[.agg #[.int .u16 4119, .int .u8 0, .slice A2 2 d2], .slice (some ⟨b, o + 7, none⟩) 0 (c - 7 - 2), .int .i64 0]) (by clear HF HR HCL bb k9 q1 q2 HX; simp [*, results, Tryz.results149, go_sem]) rfl ⟨_, _, _, _, rfl, by (repeat (with_reducible first | exact Fr.refl _ | assumption | refine Fr.alloc ?_ _ | refine Fr.drew ?_ | refine Fr.drewN ?_ _ | refine Fr.set ?_ (by first | (simp; done) | (simp; omega)) _ | refine Fr.trans ?_ (by assumption)))⟩
  · skip
    have hc10 : 2 ≤ c - 7 := by omega
    refine start_ (n := 7) (S := fun w' => w'.cell? ⟨w.heap.size + 1, 0, none⟩ = some (.int .u16 4119) ∧ w'.cell? ⟨w.heap.size + 1, 1, none⟩ = some (.int .u8 0) ∧ w'.cell? ⟨w.heap.size + 1, 2, none⟩ = some (.slice A2 2 d2)) (ds := [4]) #[false, false, false, false, false, false, false] (by kernel_rfl) rfl rfl ⟨(by go_simp), (by go_simp), (by go_simp)⟩ (fun hHeld => ?_)
    refine with_tabW Item11.tab Item11.bits (fun HT_ HW_ => ?_)
    refine pure_ (i := 1) (N := some 47) (v := ?_) (a' := ?_) #[false, true, false, false, false, false, false] rfl rfl (any_of HT_.out (by kernel_rfl)) (fun _ _ _ h => h) (Or.inl ⟨by rfl, ?_⟩) ?_ ?_
    rotate_left
    · intro w'
      go_simp
      with_reducible rfl
    rotate_left
    · simp only [Act.put, List.setIfInBounds_toArray, List.set_cons_zero, List.set_cons_succ, i64_w, i32_w]
      rfl
    refine pure_ (i := 2) (N := some 48) (v := ?_) (a' := ?_) #[false, true, true, false, false, false, false] rfl rfl (any_of HT_.out (by kernel_rfl)) (fun _ _ _ h => h) (Or.inl ⟨by rfl, ?_⟩) ?_ ?_
    rotate_left
    · intro w'
      go_simp
      with_reducible rfl
    rotate_left
    · simp only [Act.put, List.setIfInBounds_toArray, List.set_cons_zero, List.set_cons_succ, i64_w, i32_w]
      rfl
    refine pure_ (i := 3) (N := some 49) (v := ?_) (a' := ?_) #[false, true, true, true, false, false, false] rfl rfl (any_of HT_.out (by kernel_rfl)) (fun _ _ _ h => h) (Or.inl ⟨by rfl, ?_⟩) ?_ ?_
    rotate_left
    · intro w'
      go_simp
      with_reducible rfl
    rotate_left
    · simp only [Act.put, List.setIfInBounds_toArray, List.set_cons_zero, List.set_cons_succ, i64_w, i32_w]
      rfl
    refine take_ (i := 0) (N := some 46) (v := ?_) (a' := ?_) #[true, true, true, true, false, false, false] rfl rfl (take_ofW HT_.out HW_.out (by kernel_rfl)) (fun _ _ _ h => h) (Or.inl ⟨by rfl, ?_⟩) hHeld ?_ ?_
    rotate_left
    · rintro w' ⟨s0, s1, s2⟩
      go_simp
      with_reducible rfl
    rotate_left
    · simp only [Act.put, List.setIfInBounds_toArray, List.set_cons_zero, List.set_cons_succ, i64_w, i32_w]
      rfl
    refine last_ (i := 4) (N := none) #[true, true, true, true, true, false, false] rfl rfl (one_of HT_.out (by kernel_rfl)) (by decide) (fun K hK => ?_)
    refine skip_ (w1 := ?_) (by rfl) rfl ?_ ?_
    rotate_left
    · go_simp
      rfl
    refine hK.out _ _ ?_
    clear hK K
    refine pure_ (i := 5) (N := some 3) (v := ?_) (a' := ?_) #[true, true, true, true, true, true, false] rfl rfl (any_of HT_.out (by kernel_rfl)) (fun _ _ _ h => h) (Or.inl ⟨by rfl, ?_⟩) ?_ ?_
    rotate_left
    · intro w'
      go_simp
      with_reducible rfl
    rotate_left
    · simp only [Act.put, List.setIfInBounds_toArray, List.set_cons_zero, List.set_cons_succ, i64_w, i32_w]
      rfl
    refine pure_ (i := 6) (N := some 4) (v := ?_) (a' := ?_) #[true, true, true, true, true, true, true] rfl rfl (any_of HT_.out (by kernel_rfl)) (fun _ _ _ h => h) (Or.inl ⟨by rfl, ?_⟩) ?_ ?_
    rotate_left
    · intro w'
      go_simp
      with_reducible rfl
    rotate_left
    · simp only [Act.put, List.setIfInBounds_toArray, List.set_cons_zero, List.set_cons_succ, i64_w, i32_w]
      rfl
    refine done_ (done_of HT_.out (by kernel_rfl)) ?_

    go_wp2
    exact bodyPost_ret (v := .tuple #[.agg #[.int .u16 4119, .int .u8 0, .slice A2 2 d2], .slice (some ⟨b, o + 7 + 2, none⟩) 0 (c - 7 - 2), .int .i64 0]) (by clear hc9 hc10 HF HR HCL bb k9 q1 q2 HX; simp [*, results, Tryz.results149, go_sem]) rfl ⟨_, _, _, _, rfl, by (repeat (with_reducible first | exact Fr.refl _ | assumption | refine Fr.alloc ?_ _ | refine Fr.drew ?_ | refine Fr.drewN ?_ _ | refine Fr.set ?_ (by first | (simp; done) | (simp; omega)) _ | refine Fr.trans ?_ (by assumption)))⟩

end Go.Proofs.YtmllpkpdfhniaaaGreat

namespace Go.Proofs.YtmllpkpdfhniaaaGreat
open Go.RowKit Go.Sort

set_option maxRecDepth 100000 in
set_option maxHeartbeats 2000000 in
theorem decode_c (b o c : Nat) (hc : 13 ≤ c) (hc2 : c ≤ 9223372036854775807) (w : World) (hb : b < w.heap.size) (hx : ∀ i u, (bcs [1, 0, 0, 0, 0x17, 0x10, 0, 2, 0, 0, 0, 0xe8, 3])[i]? = some u → w.cell? ⟨b, o + i, none⟩ = some u) :
    Calls Tryz.prog 93 #[.slice (some ⟨b, o, none⟩) 13 c] w fun e w' => ∃ B cap, e = .returned (.tuple #[.slice (some ⟨B, 0, none⟩) 1 cap, .int .i64 0]) ∧ w'.cell? ⟨B, 0, none⟩ = some (.int .u16 4119) ∧ Fr w w' := by
  have HX := Lib.hid hx
  have HR := fun (w' : World) (hf : Fr w w') => read32_c b o 13 c 1 (.inl rfl) (by omega) w' (hf.cell (hx 0 _ rfl)) (hf.cell (hx 1 _ rfl)) (hf.cell (hx 2 _ rfl)) (hf.cell (hx 3 _ rfl))
  have HI := fun (w' : World) (hf : Fr w w') => item_c b (o + 4) (c - 4) (by omega) (by omega) w' (Nat.lt_of_lt_of_le hb hf.size) (fun i u hu => hf.cell (by
    have : o + 4 + i = o + (4 + i) := by omega
    rw [this]
    exact hx (4 + i) u (by rw [Nat.add_comm]; exact hu)))
  clear hx
  have q1 : ¬ c = 4 := by omega
  have q2 : 4 ≤ c := by omega
  go_enter Tryz.func93, Tryz.ntmps93
  go_wp2_with (first | (go_at_call 148; refine (HR _ (by (repeat (with_reducible first | exact Fr.refl _ | assumption | refine Fr.alloc ?_ _ | refine Fr.drew ?_ | refine Fr.drewN ?_ _ | refine Fr.set ?_ (by first | (simp; done) | (simp; omega)) _ | refine Fr.trans ?_ (by assumption))))).mono ?_; rintro e w1 ⟨rfl, hF1⟩; have hz1 := hF1.size; (try simp at hz1); have hc1 := hF1.cells; have hf1 := hF1.froz) | fail)
  refine wp_loop_rounds 2 ?_
  rw [rounds_succ]
  go_wp2_with (first | (go_at_call 149; refine (HI _ (by (repeat (with_reducible first | exact Fr.refl _ | assumption | refine Fr.alloc ?_ _ | refine Fr.drew ?_ | refine Fr.drewN ?_ _ | refine Fr.set ?_ (by first | (simp; done) | (simp; omega)) _ | refine Fr.trans ?_ (by assumption))))).mono ?_; rintro e w2 ⟨A2, d2, A3, d3, rfl, hF2⟩; have hz2 := hF2.size) | fail)
  rw [rounds_succ]
  go_wp2
  exact bodyPost_ret (v := .tuple #[.slice (some ⟨w2.heap.size + 1 + 1, 0, none⟩) 1 ((Question.appendCap 1 0 50).cut (w2.tape w2.drawn (Question.appendCap 1 0 50))), .int .i64 0]) (by simp [results, Tryz.results93, go_sem]) rfl ⟨_, _, rfl, by go_simp; rw [Array.getElem?_append_left (by simp)]; rfl, by (repeat (with_reducible first | exact Fr.refl _ | assumption | refine Fr.alloc ?_ _ | refine Fr.drew ?_ | refine Fr.drewN ?_ _ | refine Fr.set ?_ (by first | (simp; done) | (simp; omega)) _ | refine Fr.trans ?_ (by assumption)))⟩

theorem two_rd (w : World) : RdI ((w.alloc (.cells #[.int .u8 232, .int .u8 3] 5)).alloc (.cells #[.int .u16 4119, .int .u8 0, .slice (some ⟨w.heap.size, 0, none⟩) 2 2] 50)) (.slice (some ⟨w.heap.size + 1, 0, none⟩) 1 1) [(⟨4119, 0, [232, 3]⟩, .slice (some ⟨w.heap.size, 0, none⟩) 2 2)] := by
  refine ⟨⟨rfl, _, _, rfl, Nat.le_refl _, by decide, .inr ⟨_, 0, rfl, by simp, fun i u h => ?_⟩⟩, fun j hj => ?_, fun j hj => ?_⟩
  · match i, h with
    | 0, h => cases h; simp
    | 1, h => cases h; simp
    | 2, h => cases h; simp
    | i + 3, h => simp [jcells] at h
  · cases List.mem_singleton.1 hj
    refine ⟨rfl, _, _, rfl, Nat.le_refl _, by decide, .inr ⟨_, 0, rfl, by simp; omega, fun i u h => ?_⟩⟩
    match i, h with
    | 0, h => cases h; simp
    | 1, h => cases h; simp
    | i + 2, h => simp [bcs] at h
  · cases List.mem_singleton.1 hj
    show It.wf ⟨4119, 0, [232, 3]⟩
    exact ⟨⟨by decide, by decide⟩, by decide, by decide⟩

set_option maxRecDepth 100000 in
set_option maxHeartbeats 2000000 in
theorem lives_any (w : World) : Calls Tryz.prog 22 #[] w fun e w' => e = .returned (.bool true) ∧ Fr w w' := by
  have HE : ∀ w', Fr ((w.alloc (.cells #[.int .u8 232, .int .u8 3] 5)).alloc (.cells #[.int .u16 4119, .int .u8 0, .slice (some ⟨w.heap.size, 0, none⟩) 2 2] 50)) w' → Calls Tryz.prog 92 #[.slice (some ⟨w.heap.size + 1, 0, none⟩) 1 1] w' fun e w2 => ∃ b o c, e = .returned (.tuple #[.slice (some ⟨b, o, none⟩) 13 c, .int .i64 0]) ∧ RdB w2 (.slice (some ⟨b, o, none⟩) 13 c) [1, 0, 0, 0, 0x17, 0x10, 0, 2, 0, 0, 0, 0xe8, 3] ∧ b < w2.heap.size ∧ Fr w' w2 := fun w' hf => by
    refine (dcfEncode_any _ _ _ ((two_rd w).fr hf) (by simp)).mono ?_
    rintro e w2 ⟨v2, rfl, h1, h2⟩
    have h0 : encErr (jits [((⟨4119, 0, [232, 3]⟩ : It), Value.slice (some ⟨w.heap.size, 0, none⟩) 2 2)]) = 0 := rfl
    have h4 : low4 ([((⟨4119, 0, [232, 3]⟩ : It), Value.slice (some ⟨w.heap.size, 0, none⟩) 2 2)].length : Nat) ++ encL [⟨4119, 0, [232, 3]⟩] = [1, 0, 0, 0, 0x17, 0x10, 0, 2, 0, 0, 0, 0xe8, 3] := by
      show low4 1 ++ encL [⟨4119, 0, [232, 3]⟩] = _
      decide
    have h3 := h1 h0
    rw [show jits [((⟨4119, 0, [232, 3]⟩ : It), Value.slice (some ⟨w.heap.size, 0, none⟩) 2 2)] = [⟨4119, 0, [232, 3]⟩] from rfl, h4] at h3
    obtain ⟨q, A, c, rfl, hc1, hc2, hh⟩ := id h3
    rcases hh with h | ⟨b, o, rfl, hb, hx⟩
    · simp at h
    · exact ⟨b, o, c, by rw [h0]; rfl, h3, hb, h2⟩
  go_enter Tryz.func22, Tryz.ntmps22
  go_wp2_with (first | (go_at_call 92; refine (HE _ (by (repeat (with_reducible first | exact Fr.refl _ | assumption | refine Fr.alloc ?_ _ | refine Fr.drew ?_ | refine Fr.drewN ?_ _ | refine Fr.set ?_ (by first | (simp; done) | (simp; omega)) _ | refine Fr.trans ?_ (by assumption))))).mono ?_; rintro e w2 ⟨b, o, c, rfl, hR2, hb, hF2⟩; have hcc : 13 ≤ c ∧ c ≤ 9223372036854775807 := (by obtain ⟨_, A, c', hv, hc1, hc2, _⟩ := id hR2; cases hv; exact ⟨hc1, hc2⟩); have hxx := (by obtain ⟨_, A, c', hv, hc1, hc2, hh⟩ := id hR2; cases hv; rcases hh with h | ⟨b', o', hA, hb, hx⟩; exact absurd h (by simp); cases hA; exact hx : ∀ i u, (bcs [1, 0, 0, 0, 0x17, 0x10, 0, 2, 0, 0, 0, 0xe8, 3])[i]? = some u → w2.cell? ⟨b, o + i, none⟩ = some u)) | (go_at_call 93; refine (decode_c b o c hcc.1 hcc.2 w2 hb hxx).mono ?_; rintro e w3 ⟨B, cap, rfl, hB, hF3⟩; have hcv := (conv_rd (l := [1, 0, 0, 0, 0x17, 0x10, 0, 2, 0, 0, 0, 0xe8, 3]) (hR2.fr hF3) : (convert 36 9 (.slice (some ⟨b, o, none⟩) 13 c)).run Tryz.prog w3 = _)) | fail)
  clear hcv
  exact bodyPost_ret (v := .bool true) (by simp [*, results, Tryz.results22, go_sem]) rfl (⟨rfl, by (repeat (with_reducible first | exact Fr.refl _ | assumption | refine Fr.alloc ?_ _ | refine Fr.drew ?_ | refine Fr.drewN ?_ _ | refine Fr.set ?_ (by first | (simp; done) | (simp; omega)) _ | refine Fr.trans ?_ (by assumption)))⟩)

end Go.Proofs.YtmllpkpdfhniaaaGreat
