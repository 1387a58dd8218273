/- tramwaylaw21.DcfLast walked. -/
import Derived.Test.YtmllpkpdfhniaaaGreatJBDec
import Derived.Test.YtmllpkpdfhniaaaGreatJBLaE
import Derived.Test.YtmllpkpdfhniaaaGreatJBRgF
import Derived.Test.YtmllpkpdfhniaaaGreatJAOwn
set_option linter.unusedVariables false
set_option linter.unusedSimpArgs false
namespace Go.Proofs.YtmllpkpdfhniaaaGreat
open Go.RowKit Go.Sort

/-- What a dictionary holds, its blocks set aside, says what is saved. -/
theorem saveB_congr {a b : List (Nat × E × V)} (h : a.map (·.2) = b.map (·.2)) : saveB a = saveB b := by
  have e : ∀ a : List (Nat × E × V), a.map itemB = (a.map (·.2)).map fun y => itemB (0, y) := fun a => by rw [List.map_map]; rfl
  unfold saveB
  rw [e, e, h]
theorem resC_ok {c : Nat → Int} {n k : Nat} {e : Ending} (h : ResE c n k e) (hz : ∀ j, j < n → c j = 0) : k = n ∧ e = .returned (.tuple #[.int .i64 n, .int .u32 0]) := by
  rcases h with ⟨h1, _, h3⟩ | ⟨m, hm, _, _, hne, _⟩
  · exact ⟨h1, h3⟩
  · exact absurd (hz m hm) hne
theorem cC_zero {its : List (Nat × E × V)} {l : List It} (h : ∀ j, j < l.length → cC its l j = 0) : ∀ y ∈ l, mayC its y.ix y.sub y.b = 0 := fun y hy => by
  obtain ⟨j, hj⟩ := List.mem_iff_getElem?.1 hy
  have := h j (List.getElem?_eq_some_iff.1 hj).1
  rwa [cC_at hj] at this
theorem cC_all {its : List (Nat × E × V)} {l : List It} (h : ∀ y ∈ l, mayC its y.ix y.sub y.b = 0) (j : Nat) : cC its l j = 0 := by
  unfold cC
  split
  · rfl
  · exact h _ (List.mem_of_getElem? (by assumption))
theorem resC_any {c : Nat → Int} {n k : Nat} {e : Ending} (h : ResE c n k e) : ∃ m z : Int, e = .returned (.tuple #[.int .i64 m, .int .u32 z]) ∧ (z = 0 → ∀ j, j < n → c j = 0) := by
  rcases h with ⟨h1, h2, h3⟩ | ⟨m, hm, _, _, hne, h3⟩
  · exact ⟨_, _, h3, fun _ => h2⟩
  · exact ⟨_, _, h3, fun h => absurd h hne⟩
theorem check_ok {w : World} {db lo hi : Nat} {vl : Value} {its : List (Nat × E × V)} (h : PD w db lo hi vl its) (hS : PS its) (v : Value) (js : List Jt) (l : List It) (hl : jits js = l) (hR : RdI w v js) (hn : lt62 l.length) :
    Calls Tryz.prog 23 #[.pointer (some ⟨db, 0, none⟩), v] w fun e w' => ∃ m z : Int, e = .returned (.tuple #[.int .i64 m, .int .u32 z]) ∧ (z = 0 → ∀ y ∈ l, mayC its y.ix y.sub y.b = 0) ∧ Fr w w' := by
  subst hl
  refine (dcfCheck_any h hS v js hR (by rwa [jits_len] at hn)).mono ?_
  rintro e w' ⟨⟨k, hk, hr⟩, hf⟩
  obtain ⟨m, z, h1, h2⟩ := resC_any hr
  exact ⟨m, z, h1, fun hz => cC_zero (by rw [jits_len]; exact h2 hz), hf⟩
theorem apply_ok {w : World} {db lo hi : Nat} {vl : Value} {its : List (Nat × E × V)} (h : PD w db lo hi vl its) (hS : PS its) (v : Value) (js : List Jt) (l : List It) (hl : jits js = l) (hR : RdI w v js) (ha : apartI lo hi v js) (hn : lt62 l.length) (hok : ∀ y ∈ l, mayC its y.ix y.sub y.b = 0) (m : Nat) (hm : l.length = m) :
    Calls Tryz.prog 25 #[.pointer (some ⟨db, 0, none⟩), v] w fun e w' => e = .returned (.tuple #[.int .i64 m, .int .u32 0]) ∧ PD w' db lo hi vl (finI its l) ∧ Chg lo hi w w' := by
  subst hm
  subst hl
  refine (dcfApply_any h hS v js hR ha (by rwa [jits_len] at hn)).mono ?_
  rintro e w' ⟨k, hk, hr, hP, hC⟩
  obtain ⟨rfl, rfl⟩ := resC_ok hr (fun j hj => by rw [cA_eq]; exact cC_all hok j)
  rw [stK_fin hS _ hok, List.take_of_length_le (by rw [jits_len]; exact Nat.le_refl _)] at hP
  exact ⟨by rw [jits_len], hP, hC⟩
theorem finI_PS {its : List (Nat × E × V)} (hS : PS its) (l : List It) (hok : ∀ y ∈ l, mayC its y.ix y.sub y.b = 0) : PS (finI its l) := by
  have := stK_PS hS l l.length
  rwa [stK_fin hS _ hok, List.take_of_length_le (Nat.le_refl _)] at this

theorem last_ok (js : List Jt) (l : List It) (n m : Nat) (hl : jits js = l) (hn : l.length = n) (hm : (lastL l).length = m) (h5 : ¬ (500 : Int) < (n : Int)) (hb : ∀ y ∈ l, y.b.length ≤ 140737488355328) (v : Value) (w : World) (hR : RdI w v js) :
    Calls Tryz.prog 26 #[v] w fun e w' => ∃ (v : Value) (js' : List Jt), e = .returned v ∧ jits js' = lastL l ∧ OI w' w.heap.size v js' ∧ Fr w w' := by
  subst hl
  rw [jits_len] at hn
  exact last_any js v w hR (by omega) fun j hj => hb j.1 (List.mem_map_of_mem hj)

namespace Reg
def Zl7.T : Bool × List (List Nat × List Nat) := (true, [([], []), ([0], [0]), ([1], [1]), ([2], [2]), ([], []), ([4], [4]), ([3, 5, 5], [3, 5]), ([6], [6]), ([7], [7]), ([7], [7]), ([8, 6, 0, 1, 2, 3, 4, 5, 6, 7, 8], [8]), ([9, 10, 0, 1, 2, 3, 4, 5, 6, 7, 8, 9, 10], [9])])
def Zl7.B : List Nat := [0, 1, 3, 7, 0, 16, 63, 127, 255, 255, 511, 2047]
theorem Zl7.tab : Reg.rtab .any (Reg.opsOf Tryz.f3 7) = Zl7.T := by kernel_rfl
theorem Zl7.bits : Reg.waitsOk Zl7.T.2 Zl7.B = true := by kernel_rfl

def Zl10.T : Bool × List (List Nat × List Nat) := (true, [([], []), ([0], [0]), ([1], [1]), ([2], [2]), ([], []), ([4], [4]), ([3, 5, 5], [3, 5]), ([6], [6]), ([7], [7]), ([7], [7]), ([8, 6, 0, 1, 2, 3, 4, 5, 6, 7, 8], [8]), ([9, 10, 0, 1, 2, 3, 4, 5, 6, 7, 8, 9, 10], [9])])
def Zl10.B : List Nat := [0, 1, 3, 7, 0, 16, 63, 127, 255, 255, 511, 2047]
theorem Zl10.tab : Reg.rtab .any (Reg.opsOf Tryz.f3 10) = Zl10.T := by kernel_rfl
theorem Zl10.bits : Reg.waitsOk Zl10.T.2 Zl10.B = true := by kernel_rfl

def Zl11.T : Bool × List (List Nat × List Nat) := (true, [([], []), ([0], [0]), ([1], [1]), ([2], [2]), ([], []), ([4], [4]), ([5, 5], [5]), ([3, 6, 6], [3, 6]), ([7], [7]), ([8], [8]), ([8], [8]), ([9, 7, 0, 1, 2, 3, 4, 5, 6, 7, 8, 9], [9]), ([10, 11, 0, 1, 2, 3, 4, 5, 6, 7, 8, 9, 10, 11], [10])])
def Zl11.B : List Nat := [0, 1, 3, 7, 0, 16, 48, 127, 255, 511, 511, 1023, 4095]
theorem Zl11.tab : Reg.rtab .any (Reg.opsOf Tryz.f3 11) = Zl11.T := by kernel_rfl
theorem Zl11.bits : Reg.waitsOk Zl11.T.2 Zl11.B = true := by kernel_rfl

def Zl12.T : Bool × List (List Nat × List Nat) := (true, [([], []), ([0], [0]), ([1], [1]), ([2], [2]), ([3, 2], [2, 3]), ([2, 4], [2, 4]), ([5, 2], [5]), ([6], [6]), ([6], [6]), ([8, 6], [6, 8]), ([7, 9, 6], [6, 7, 9]), ([6, 10], [6, 10]), ([11, 6], [11]), ([12], [12]), ([12], [12]), ([13, 14, 12], [12, 13, 14]), ([12, 15], [12, 15]), ([16, 12], [16]), ([17], [17]), ([18, 17], [17, 18]), ([19, 17], [17, 19]), ([20, 17], [17, 20]), ([21, 17, 17], [17, 21]), ([22, 17], [17, 22]), ([17], [17]), ([24, 17], [17, 24]), ([25, 17], [17, 25]), ([26, 17], [17, 26]), ([27, 22, 17], [17, 27]), ([28, 17], [17, 28]), ([23, 29, 17], [17, 23, 29]), ([17, 30], [17, 30]), ([31, 28], [31]), ([32, 32], [32]), ([32, 33], [32, 33]), ([34, 33, 0, 1, 2, 3, 4, 5, 6, 7, 8, 9, 10, 11, 12, 13, 14, 15, 16, 17, 18, 19, 20, 21, 22, 23, 24, 25, 26, 27, 28, 29, 30, 31, 32, 33, 34], [34])])
def Zl12.B : List Nat := [0, 1, 3, 7, 15, 31, 63, 127, 127, 383, 1023, 2047, 4095, 8191, 8191, 32767, 65535, 131071, 262143, 524287, 1048575, 2097151, 4194303, 8388607, 262143, 17039359, 50593791, 117702655, 260046847, 528482303, 1073741823, 2147483647, 4294967295, 8589934591, 17179869183, 34359738367]
theorem Zl12.tab : Reg.rtab .any (Reg.opsOf Tryz.f3 12) = Zl12.T := by kernel_rfl
theorem Zl12.bits : Reg.waitsOk Zl12.T.2 Zl12.B = true := by kernel_rfl

end Reg

set_option maxHeartbeats 1000000 in
theorem last_refused (ve : Value) (A : Option Addr) (n c : Nat) (w : World) (HB : ∀ w', Fr w w' → Calls Tryz.prog 21 #[ve] w' fun e w2 => e = .returned (.tuple #[.pointer none, .bool true]) ∧ Fr w' w2) :
    Calls Tryz.prog 3 #[ve, .slice A n c] w fun e w' => e = .returned (.bool true) ∧ Fr w w' := by
  go_enter Tryz.func3, Tryz.ntmps3
  go_wp2_with (first | (go_at_call 21; refine (HB _ (by (repeat (with_reducible first | exact Fr.refl _ | assumption | refine Fr.alloc ?_ _ | refine Fr.drew ?_ | refine Fr.drewN ?_ _ | refine Fr.set ?_ (by first | (simp; done) | (simp; omega)) _ | refine Fr.trans ?_ (by assumption))))).mono ?_; rintro e w1 ⟨rfl, hF1⟩; have hz1 := hF1.size; (try simp at hz1); have hc1 := hF1.cells; have hf1 := hF1.froz) | (go_at_call 22; refine (lives_any _).mono ?_; rintro e w2 ⟨rfl, hF2⟩; have hz2 := hF2.size; (try simp at hz2); have hc2 := hF2.cells; have hf2 := hF2.froz) | fail)
  exact bodyPost_ret (v := .bool true) (by simp [*, results, Tryz.results3, go_sem]) rfl (⟨rfl, by (repeat (with_reducible first | exact Fr.refl _ | assumption | refine Fr.alloc ?_ _ | refine Fr.drew ?_ | refine Fr.drewN ?_ _ | refine Fr.set ?_ (by first | (simp; done) | (simp; omega)) _ | refine Fr.trans ?_ (by assumption)))⟩)

set_option maxHeartbeats 1000000 in
theorem last_many (ve : Value) (A : Option Addr) (n c : Nat) (w : World) (hn : (500 : Int) < (n : Int)) (l : List E) (HB : ∀ w', Fr w w' → Calls Tryz.prog 21 #[ve] w' fun e w2 => Begun w' l e w2) :
    Calls Tryz.prog 3 #[ve, .slice A n c] w fun e w' => e = .returned (.bool true) ∧ Fr w w' := by
  go_enter Tryz.func3, Tryz.ntmps3
  go_wp2_with (first | (go_at_call 21; refine (HB _ (by (repeat (with_reducible first | exact Fr.refl _ | assumption | refine Fr.alloc ?_ _ | refine Fr.drew ?_ | refine Fr.drewN ?_ _ | refine Fr.set ?_ (by first | (simp; done) | (simp; omega)) _ | refine Fr.trans ?_ (by assumption))))).mono ?_; rintro e w1 ⟨pb1, db1, lo1, hi1, vl1, its1, rb1, lv1, vv1, rfl, hlo1, P1, hm1, hF1⟩) | (go_at_call 22; refine (lives_any _).mono ?_; rintro e w2 ⟨rfl, hF2⟩; have hz2 := hF2.size; (try simp at hz2); have hc2 := hF2.cells; have hf2 := hF2.froz) | fail)
  exact bodyPost_ret (v := .bool true) (by simp [*, results, Tryz.results3, go_sem]) rfl (⟨rfl, by (repeat (with_reducible first | exact Fr.refl _ | assumption | refine Fr.alloc ?_ _ | refine Fr.drew ?_ | refine Fr.drewN ?_ _ | refine Fr.set ?_ (by first | (simp; done) | (simp; omega)) _ | refine Fr.trans ?_ (by assumption)))⟩)

end Go.Proofs.YtmllpkpdfhniaaaGreat
