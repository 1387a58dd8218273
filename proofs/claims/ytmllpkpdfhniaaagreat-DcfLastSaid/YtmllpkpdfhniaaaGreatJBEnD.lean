/- dcf.Encode: its contract. -/
import Derived.Test.YtmllpkpdfhniaaaGreatJBEnc
set_option linter.unusedVariables false
set_option linter.unusedSimpArgs false
namespace Go.Proofs.YtmllpkpdfhniaaaGreat
open Go.RowKit Go.Sort

theorem encode_long (A : Option Addr) (n c : Nat) (h : (1024 : Int) < n) (w : World) : Calls Tryz.prog 92 #[.slice A n c] w fun e w' => e = .returned (.tuple #[.slice none 0 0, .int .i64 2]) ∧ Fr w w' := by
  go_enter Tryz.func92, Tryz.ntmps92
  go_wp2
  go_ret2
  exact ⟨rfl, by (repeat (with_reducible first | exact Fr.refl _ | assumption | refine Fr.alloc ?_ _ | refine Fr.drew ?_ | refine Fr.drewN ?_ _ | refine Fr.set ?_ (by first | (simp; done) | (simp; omega)) _ | refine Fr.trans ?_ (by assumption)))⟩
theorem encode_big' (A : Option Addr) (n c : Nat) (h : ¬ (1024 : Int) < n) (w : World) (HC : Calls Tryz.prog 145 #[.slice A n c, .func (.func 146) #[] #[]] w fun e w' => e = .returned (.bool true) ∧ Fr w w') :
    Calls Tryz.prog 92 #[.slice A n c] w fun e w' => e = .returned (.tuple #[.slice none 0 0, .int .i64 2]) ∧ Fr w w' := by
  go_enter Tryz.func92, Tryz.ntmps92
  go_wp2_with (first | (go_at_call 145; refine (HC).mono ?_; rintro e w1 ⟨rfl, hF1⟩; have hz1 := hF1.size; (try simp at hz1); have hc1 := hF1.cells; have hf1 := hF1.froz) | fail)
  go_ret2
  exact ⟨rfl, by (repeat (with_reducible first | exact Fr.refl _ | assumption | refine Fr.alloc ?_ _ | refine Fr.drew ?_ | refine Fr.drewN ?_ _ | refine Fr.set ?_ (by first | (simp; done) | (simp; omega)) _ | refine Fr.trans ?_ (by assumption)))⟩
theorem encode_nil (A : Option Addr) (c : Nat) (w : World) (HC : Calls Tryz.prog 145 #[.slice A 0 c, .func (.func 146) #[] #[]] w fun e w' => e = .returned (.bool false) ∧ Fr w w') :
    Calls Tryz.prog 92 #[.slice A 0 c] w fun e w' => ∃ v, e = .returned (.tuple #[v, .int .i64 0]) ∧ RdB w' v (low4 0) ∧ Fr w w' := by
  have HL := low32_any 0 (Int.le_refl 0) (by decide)
  go_enter Tryz.func92, Tryz.ntmps92
  go_wp2_with (first | (go_at_call 145; refine (HC).mono ?_; rintro e w1 ⟨rfl, hF1⟩; have hz1 := hF1.size; (try simp at hz1); have hc1 := hF1.cells; have hf1 := hF1.froz) | (go_at_call 147; refine (HL _).mono ?_; rintro e w2 ⟨v2, rfl, hO2, hF2⟩; have HO2 := Lib.hid hO2.rd; clear hO2) | fail)
  refine wp_loop_rounds 1 ?_
  rw [rounds_succ]
  go_wp2
  go_ret2
  exact ⟨_, rfl, HO2.out, by (repeat (with_reducible first | exact Fr.refl _ | assumption | refine Fr.alloc ?_ _ | refine Fr.drew ?_ | refine Fr.drewN ?_ _ | refine Fr.set ?_ (by first | (simp; done) | (simp; omega)) _ | refine Fr.trans ?_ (by assumption)))⟩

theorem rd_three (w : World) (x : It) (hw : x.wf) : Rd (w.alloc (.cells #[.int .u8 (IntKind.u8.wrap x.ix), .int .u8 (IntKind.u8.wrap (x.ix / 256)), .int .u8 x.sub] 5)) 1 (.slice (some ⟨w.heap.size, 0, none⟩) 3 3) 3 (bcs [by8 x.ix 0, by8 x.ix 1, by8 x.sub 0]) := by
  refine Rd.of_block (heap_alloc_new w _) (Nat.le_refl _) (by omega) (by simp [bcs]) ?_
  obtain ⟨⟨h1, h2⟩, ⟨h3, h4⟩⟩ := hw
  obtain ⟨ix, hix⟩ := Int.eq_ofNat_of_zero_le h1
  obtain ⟨sub, hsub⟩ := Int.eq_ofNat_of_zero_le h3
  have : bcs [by8 x.ix 0, by8 x.ix 1, by8 x.sub 0] = [.int .u8 (IntKind.u8.wrap x.ix), .int .u8 (IntKind.u8.wrap (x.ix / 256)), .int .u8 x.sub] := by
    simp only [bcs, List.map_cons, List.map_nil, by8_nat, wrap8, hix, hsub]
    simp
    omega
  rw [this]
  exact List.prefix_refl _

namespace Reg
def Enc8.T : Bool × List (List Nat × List Nat) := (true, [([], []), ([], []), ([1], [1]), ([2], [2]), ([3], [3]), ([0, 4, 4], [0, 4]), ([], []), ([6], [6]), ([5, 7, 5], [5, 7]), ([8, 8, 0, 1, 2, 3, 4, 5, 6, 7, 8], [0, 8])])
def Enc8.B : List Nat := [0, 0, 2, 6, 14, 31, 0, 64, 255, 511]
theorem Enc8.tab : Reg.rtab .any (Reg.opsOf Tryz.f92 8) = Enc8.T := by kernel_rfl
theorem Enc8.bits : Reg.waitsOk Enc8.T.2 Enc8.B = true := by kernel_rfl

end Reg
open Reg in
set_option maxRecDepth 100000 in
set_option maxHeartbeats 4000000 in
theorem encode_walk (b o cap : Nat) (js : List Jt) (w : World) (h1024 : ¬ (1024 : Int) < js.length) (hsm : ∀ x ∈ jits js, x.b.length ≤ 65536) (hcap : js.length ≤ cap) (hb : b < w.heap.size)
    (hx : ∀ i u, (js.map jcells).flatten[i]? = some u → w.cell? ⟨b, o + i, none⟩ = some u) (hbs : ∀ j ∈ js, RdB w j.2 j.1.b) (hwf : ∀ j ∈ js, j.1.wf)
    (HC : Calls Tryz.prog 145 #[.slice (some ⟨b, o, none⟩) js.length cap, .func (.func 146) #[] #[]] w fun e w' => e = .returned (.bool false) ∧ Fr w w') :
    Calls Tryz.prog 92 #[.slice (some ⟨b, o, none⟩) js.length cap] w fun e w' => ∃ v, e = .returned (.tuple #[v, .int .i64 0]) ∧ RdB w' v (low4 js.length ++ encL (jits js)) ∧ Fr w w' := by
  have mx := mixed
  have HL := low32_any js.length (by omega) (by omega)
  have HX := Lib.hid hx
  have HB := Lib.hid hbs
  have HW := Lib.hid hwf
  have HS := Lib.hid hsm
  clear hx hbs hwf hsm
  go_enter Tryz.func92, Tryz.ntmps92
  go_wp2_with (first | (go_at_call 145; refine (HC).mono ?_; rintro e w1 ⟨rfl, hF1⟩; have hz1 := hF1.size; (try simp at hz1); have hc1 := hF1.cells; have hf1 := hF1.froz) | (go_at_call 147; refine (HL _).mono ?_; rintro e w2 ⟨v2, rfl, hO2, hF2⟩; have HO2 := Lib.hid hO2; clear hO2) | fail)
  have hF12 := hF1.trans hF2
  clear HL HC
  go_loopw [4, 19] (fun v4 i wr => ∃ k : Nat, k ≤ js.length ∧ i = .int .i64 k ∧ Fr w wr ∧ OB wr w.heap.size v4 (low4 js.length ++ encL ((jits js).take k))) (fun _ i _ => js.length - (intOf i).toNat)
  case atStart => exact ⟨0, Nat.zero_le _, rfl, hF12, by have := HO2.out.mono hF1.size; simpa [encL] using this⟩
  case round =>
    obtain ⟨k, hk, rfl, hF, hO⟩ := hrel
    by_cases hlt : k < js.length
    · obtain ⟨j, hj⟩ : ∃ j, js[k]? = some j := ⟨js[k], List.getElem?_eq_getElem hlt⟩
      have hm := List.mem_of_getElem? hj
      have hcell : ∀ i u, (jcells j)[i]? = some u → wr.cell? ⟨b, o + (k * 3 + i), none⟩ = some u := fun i u hu => (hF.cells b _ hb).trans (HX.out _ u ((flat_at jcells 3 jlen js k i j hj (List.getElem?_eq_some_iff.1 hu).1).trans hu))
      have hRB := HB.out j hm
      have hjw := HW.out j hm
      have hjt := jits_at hj
      have hjl := HS.out _ (List.mem_of_getElem? hjt)
      have hlenk : (encL ((jits js).take k)).length ≤ k * 65543 := by
        have h1 := encL_len ((jits js).take k) fun x hx => HS.out x (List.mem_of_mem_take hx)
        have h2 : ((jits js).take k).length ≤ k := by simp; omega
        exact Nat.le_trans h1 (Nat.mul_le_mul_right _ h2)
      have htk : encL ((jits js).take (k + 1)) = encL ((jits js).take k) ++ encIt j.1 := by unfold encL; rw [List.take_add_one, hjt]; simp
      obtain ⟨vA, vc, hjv⟩ : ∃ A c, j.2 = .slice A j.1.b.length c := by
        obtain ⟨_, A, c, hv, _⟩ := hRB
        exact ⟨A, c, hv⟩
      have hR3 := fun w => rd_three w j.1 hjw
      obtain ⟨⟨ix, sub, bl⟩, bv⟩ := j
      dsimp only at hjv hRB hjl htk hR3
      subst hjv
      have q0 : wr.cell? ⟨b, o + k * 3, none⟩ = some (.int .u16 ix) := (congrArg (fun z => wr.cell? ⟨b, z, none⟩) (by omega)).trans (hcell 0 _ rfl)
      have q1 : wr.cell? ⟨b, o + k * 3 + 1, none⟩ = some (.int .u8 sub) := (congrArg (fun z => wr.cell? ⟨b, z, none⟩) (by omega)).trans (hcell 1 _ rfl)
      have q2 : wr.cell? ⟨b, o + k * 3 + 2, none⟩ = some (.slice vA bl.length vc) := (congrArg (fun z => wr.cell? ⟨b, z, none⟩) (by omega)).trans (hcell 2 _ rfl)
      have HRB := Lib.hid hRB
      have HO := Lib.hid hO
      have HTK := Lib.hid htk
      have HR3 := Lib.hid hR3
      have HLB := low32_any bl.length (by omega) (by omega)
      have hwz := hF.size
      have hpl : (low4 (js.length : Int) ++ encL ((jits js).take k)).length ≤ 4 + k * 65543 := by
        rw [List.length_append]
        have : (low4 (js.length : Int)).length = 4 := rfl
        omega
      have g1 : (0 : Int) ≤ (k : Int) := by omega
      have g2 : (k : Int) < (js.length : Int) := by omega
      obtain ⟨PR, hPR⟩ : ∃ PR, PR = low4 (js.length : Int) ++ encL ((jits js).take k) := ⟨_, rfl⟩
      rw [← hPR] at hpl
      have HO' : Hid (OB wr w.heap.size u4 PR) := Lib.hid (by rw [hPR]; exact HO.out)
      have HPR := Lib.hid hPR
      clear hcell hj hm hRB hO htk hjt hR3 hlenk hPR HO
      obtain ⟨i0, hi0, hiz0, hiz1, hiz2⟩ := info_parts infoByte
      go_wp2_with (first | (at_builtin; refine wpList_append_rd _ (by rfl) (.tmp 23) (.tmp 33) _ (by rfl) w.heap.size 5 i0 (.int .u8 0) 1 1 Tryz.underlying36 hi0 hiz0 hiz1 hiz2 rfl (by omega) u4 PR.length (bcs PR) (by rfl) (HO'.out.fr (by (repeat (with_reducible first | exact Fr.refl _ | assumption | refine Fr.alloc ?_ _ | refine Fr.drew ?_ | refine Fr.drewN ?_ _ | refine Fr.set ?_ (by first | (simp; done) | (simp; omega)) _ | refine Fr.trans ?_ (by assumption))))) (.slice (some ⟨wr.heap.size + 1, 0, none⟩) 3 3) 3 (bcs [by8 ix 0, by8 ix 1, by8 sub 0]) (by rfl) (by have := HR3.out (wr.alloc (.cells #[.int .u16 ix, .int .u8 sub, .slice vA bl.length vc] 50)); rw [World.size_alloc] at this; exact this) (bcs_one _) (by simp only [maxLen]; omega) (by omega) (by simp; omega) ?_; intro v5 w5 hO5' hg5; have hO5 : Hid (OB w5 w.heap.size v5 (PR ++ [by8 ix 0, by8 ix 1, by8 sub 0])) := Lib.hid (by unfold OB; rw [bcs_app, List.length_append]; exact hO5'); have hXne : some wr.heap.size ≠ u4.ownBlock := (fun hh => by have := (HO'.out.lt _ hh.symm).2; omega); have hX5 : w5.heap[wr.heap.size]? = some (.cells #[.int .u16 ix, .int .u8 sub, .slice vA bl.length vc] 50 (0, 0)) := ((hg5.block _ (by simp; omega) hXne).trans ((heapOld _ _ _ (by simp)).trans (heap_alloc_new _ _))); have hF5 : Fr w w5 := Fr.grown (by (repeat (with_reducible first | exact Fr.refl _ | assumption | refine Fr.alloc ?_ _ | refine Fr.drew ?_ | refine Fr.drewN ?_ _ | refine Fr.set ?_ (by first | (simp; done) | (simp; omega)) _ | refine Fr.trans ?_ (by assumption)))) hg5 (fun r hr => (HO'.out.lt r hr).1); clear hO5') | fail)
      have hXl := (Array.getElem?_eq_some_iff.1 hX5).1
      refine start_ (n := 10) (S := fun w' => w'.heap[wr.heap.size]? = some (.cells #[.int .u16 ix, .int .u8 sub, .slice vA bl.length vc] 50 (0, 0)) ∧ w'.cell? ⟨wr.heap.size, 2, none⟩ = some (.slice vA bl.length vc)) (ds := []) #[false, false, false, false, false, false, false, false, false, false] (by kernel_rfl) rfl rfl ⟨hX5, (box3 hX5).2.2⟩ (fun hHeld => ?_)
      refine with_tabW Enc8.tab Enc8.bits (fun HT_ HW_ => ?_)
      refine pure_ (i := 0) (N := some 35) (v := ?_) (a' := ?_) #[true, false, false, false, false, false, false, false, false, false] rfl rfl (any_of HT_.out (by kernel_rfl)) (fun _ _ _ h => h) (Or.inl ⟨by rfl, ?_⟩) ?_ ?_
      rotate_left
      · intro w'
        go_simp
        with_reducible rfl
      rotate_left
      · simp only [Act.put, List.setIfInBounds_toArray, List.set_cons_zero, List.set_cons_succ, i64_w, i32_w]
        rfl
      refine pure_ (i := 1) (N := some 36) (v := ?_) (a' := ?_) #[true, true, false, false, false, false, false, false, false, false] rfl rfl (any_of HT_.out (by kernel_rfl)) (fun _ _ _ h => h) (Or.inl ⟨by rfl, ?_⟩) ?_ ?_
      rotate_left
      · intro w'
        go_simp
        with_reducible rfl
      rotate_left
      · simp only [Act.put, List.setIfInBounds_toArray, List.set_cons_zero, List.set_cons_succ, i64_w, i32_w]
        rfl
      refine pure_ (i := 6) (N := some 41) (v := ?_) (a' := ?_) #[true, true, false, false, false, false, true, false, false, false] rfl rfl (any_of HT_.out (by kernel_rfl)) (fun _ _ _ h => h) (Or.inl ⟨by rfl, ?_⟩) ?_ ?_
      rotate_left
      · intro w'
        go_simp
        with_reducible rfl
      rotate_left
      · simp only [Act.put, List.setIfInBounds_toArray, List.set_cons_zero, List.set_cons_succ, i64_w, i32_w]
        rfl
      refine take_ (i := 2) (N := some 37) (v := ?_) (a' := ?_) #[true, true, true, false, false, false, true, false, false, false] rfl rfl (take_ofW HT_.out HW_.out (by kernel_rfl)) (fun _ _ _ h => h) (Or.inl ⟨by rfl, ?_⟩) hHeld ?_ ?_
      rotate_left
      · rintro w' ⟨s0, s1⟩
        go_simp
        with_reducible rfl
      rotate_left
      · simp only [Act.put, List.setIfInBounds_toArray, List.set_cons_zero, List.set_cons_succ, i64_w, i32_w]
        rfl
      refine pure_ (i := 3) (N := some 38) (v := ?_) (a' := ?_) #[true, true, true, true, false, false, true, false, false, false] rfl rfl (any_of HT_.out (by kernel_rfl)) (fun _ _ _ h => h) (Or.inl ⟨by rfl, ?_⟩) ?_ ?_
      rotate_left
      · intro w'
        go_simp
        with_reducible rfl
      rotate_left
      · simp only [Act.put, List.setIfInBounds_toArray, List.set_cons_zero, List.set_cons_succ, i64_w, i32_w]
        rfl
      refine take_ (i := 7) (N := some 42) (v := ?_) (a' := ?_) #[true, true, true, true, false, false, true, true, false, false] rfl rfl (take_ofW HT_.out HW_.out (by kernel_rfl)) (fun _ _ _ h => h) (Or.inl ⟨by rfl, ?_⟩) hHeld ?_ ?_
      rotate_left
      · rintro w' ⟨s0, s1⟩
        go_simp
        with_reducible rfl
      rotate_left
      · simp only [Act.put, List.setIfInBounds_toArray, List.set_cons_zero, List.set_cons_succ, i64_w, i32_w]
        rfl
      refine one_ (i := 4) (N := some 39) #[true, true, true, true, true, false, true, true, false, false] rfl rfl (one_of HT_.out (by kernel_rfl)) (by decide) (fun K hK => ?_)
      refine goes_ Tryz.func147 (by kernel_rfl) rfl #[.int .i64 bl.length] (by rfl) rfl rfl (by (try simp only [List.map_toArray, List.map_cons, List.map_nil]); first | done | rfl) ?_
      with_reducible refine (HLB _).mono ?_
      rintro e w6 ⟨v6, rfl, hO6, hF6⟩
      refine ⟨_, rfl, ?_⟩
      have hX6 := hF6.at_ hHeld.1
      have hF6w : Fr w w6 := (hF5.drew).trans hF6
      refine hK.out _ _ ⟨hX6, (box3 hX6).2.2⟩ (fun hHeld => ?_)
      clear hK K
      refine norm_ (a' := ?_) ?_ ?_
      rotate_left
      · show Act.put _ (some 39) _ = _
        simp only [Act.put, List.setIfInBounds_toArray, List.set_cons_zero, List.set_cons_succ, i64_w, i32_w]
        rfl
      refine one_ (i := 5) (N := some 40) #[true, true, true, true, true, true, true, true, false, false] rfl rfl (one_of HT_.out (by kernel_rfl)) (by decide) (fun K hK => ?_)
      refine step_append_rd _ (by rfl) (.tmp 35) (.tmp 39) _ (by rfl) w.heap.size 5 i0 (.int .u8 0) 1 1 Tryz.underlying36 hi0 hiz0 hiz1 hiz2 rfl (by omega) v5 (PR ++ [by8 ix 0, by8 ix 1, by8 sub 0]).length (bcs (PR ++ [by8 ix 0, by8 ix 1, by8 sub 0])) (by rfl) ((hO5.out.fr (Fr.refl _).drew).fr hF6) v6 4 (bcs (low4 bl.length)) (by rfl) hO6.rd (bcs_one _) (by simp only [maxLen, List.length_append, List.length_cons, List.length_nil]; omega) (by simp only [List.length_append, List.length_cons, List.length_nil]; omega) hF6w.size ?_
      intro v7 w7 hO7' hg7
      have hO7 : OB w7 w.heap.size v7 (PR ++ [by8 ix 0, by8 ix 1, by8 sub 0] ++ low4 bl.length) := by unfold OB; rw [bcs_app, List.length_append]; exact hO7'
      have hXn : some wr.heap.size ≠ v5.ownBlock := fun hh => by obtain ⟨cur, hc⟩ := ownsRow_ty hO5.out hh.symm; rw [hX5] at hc; simp at hc
      have hX7 := (hg7.block _ (Array.getElem?_eq_some_iff.1 hHeld.1).1 hXn).trans hHeld.1
      have hF7 : Fr w w7 := Fr.grown hF6w hg7 (fun r hr => (hO5.out.lt r hr).1)
      refine hK.out _ _ ⟨hX7, (box3 hX7).2.2⟩ (fun hHeld => ?_)
      clear hK K
      refine norm_ (a' := ?_) ?_ ?_
      rotate_left
      · show Act.put _ (some 40) _ = _
        simp only [Act.put, List.setIfInBounds_toArray, List.set_cons_zero, List.set_cons_succ, i64_w, i32_w]
        rfl
      refine one_ (i := 8) (N := some 43) #[true, true, true, true, true, true, true, true, true, false] rfl rfl (one_of HT_.out (by kernel_rfl)) (by decide) (fun K hK => ?_)
      refine step_append_rd _ (by rfl) (.tmp 40) (.tmp 42) _ (by rfl) w.heap.size 5 i0 (.int .u8 0) 1 1 Tryz.underlying36 hi0 hiz0 hiz1 hiz2 rfl (by omega) v7 (PR ++ [by8 ix 0, by8 ix 1, by8 sub 0] ++ low4 bl.length).length (bcs (PR ++ [by8 ix 0, by8 ix 1, by8 sub 0] ++ low4 bl.length)) (by rfl) hO7 (.slice vA bl.length vc) bl.length (bcs bl) (by rfl) ?cc (bcs_one _) (by simp only [maxLen, List.length_append, List.length_cons, List.length_nil, low4]; omega) (by simp only [List.length_append, List.length_cons, List.length_nil, low4]; omega) hF7.size ?_
      rotate_left
      intro v8 w8 hO8' hg8
      have hO8 : OB w8 w.heap.size v8 (PR ++ [by8 ix 0, by8 ix 1, by8 sub 0] ++ low4 bl.length ++ bl) := by unfold OB; rw [bcs_app, List.length_append]; exact hO8'
      have hX7n : some wr.heap.size ≠ v7.ownBlock := fun hh => by obtain ⟨cur, hc⟩ := ownsRow_ty hO7 hh.symm; rw [hX7] at hc; simp at hc
      have hX8 := (hg8.block _ (Array.getElem?_eq_some_iff.1 hHeld.1).1 hX7n).trans hHeld.1
      have hF8 : Fr w w8 := Fr.grown hF7 hg8 (fun r hr => (hO7.lt r hr).1)
      refine hK.out _ _ ⟨hX8, (box3 hX8).2.2⟩ (fun hHeld => ?_)
      clear hK K
      refine norm_ (a' := ?_) ?_ ?_
      rotate_left
      · show Act.put _ (some 43) _ = _
        simp only [Act.put, List.setIfInBounds_toArray, List.set_cons_zero, List.set_cons_succ, i64_w, i32_w]
        rfl
      refine pure_ (i := 9) (N := some 4) (v := ?_) (a' := ?_) #[true, true, true, true, true, true, true, true, true, true] rfl rfl (any_of HT_.out (by kernel_rfl)) (fun _ _ _ h => h) (Or.inl ⟨by rfl, ?_⟩) ?_ ?_
      rotate_left
      · intro w'
        go_simp
        with_reducible rfl
      rotate_left
      · simp only [Act.put, List.setIfInBounds_toArray, List.set_cons_zero, List.set_cons_succ, i64_w, i32_w]
        rfl
      refine done_ (done_of HT_.out (by kernel_rfl)) ?_

      case cc => exact HRB.out.fr hF7
      go_wp2
      go_roundw
      case rel =>
        refine ⟨k + 1, by omega, by go_num, hF8, ?_⟩
        rw [HTK.out]
        have : low4 (js.length : Int) ++ (encL ((jits js).take k) ++ encIt ⟨ix, sub, bl⟩) = PR ++ [by8 ix 0, by8 ix 1, by8 sub 0] ++ low4 bl.length ++ bl := by
          rw [HPR.out]
          simp [encIt]
        rw [this]
        exact hO8
      case measure =>
        show js.length - ((k : Int) + 1).toNat < js.length - ((k : Int)).toNat
        omega
    · have hkl : k = js.length := by omega
      subst hkl
      have hnl : ¬ ((js.length : Nat) : Int) < (js.length : Nat) := by omega
      have HO := Lib.hid hO
      clear hO
      go_wp2
      go_ret2
      refine ⟨_, rfl, ?_, hF⟩
      have := HO.out.rd
      rwa [List.take_of_length_le (by rw [jits_len]; exact Nat.le_refl _)] at this

end Go.Proofs.YtmllpkpdfhniaaaGreat
