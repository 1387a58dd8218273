/- The program's od: Get, Entry, may. -/
import Derived.Test.YtmllpkpdfhniaaaGreatJAOdJ
set_option linter.unusedVariables false
set_option linter.unusedSimpArgs false
namespace Go.Proofs.YtmllpkpdfhniaaaGreat
open Go.RowKit Go.Sort

def getV (its : List (Nat × E × V)) (px py : Int) : V := match getI its (px * 256 + py) with | none => V.zero | some x => x.2.2
def getE (its : List (Nat × E × V)) (px py : Int) : Int := match getI its (px * 256 + py) with | none => 4 | some x => 0
def entX (its : List (Nat × E × V)) (px py : Int) : E := match getI its (px * 256 + py) with | none => E.zero | some x => x.2.1
def entB (its : List (Nat × E × V)) (px py : Int) : Bool := (getI its (px * 256 + py)).isSome

/-- od's Get. -/
theorem get_any {w : World} {db lo hi : Nat} {vl : Value} {its : List (Nat × E × V)} (h : PD w db lo hi vl its) (hS : PS its) (px py : Int) (hp : 0 ≤ py ∧ py ≤ 255) :
    Calls Tryz.prog 46 #[.pointer (some ⟨db, 0, none⟩), .int .u16 px, .int .u8 py] w fun e w' => RetV (getV its px py) (getE its px py) w e w' := by
  unfold getV getE
  cases hg : getI its (px * 256 + py) with
  | none =>
    have HF := fun w' hf => find_none (h.fr (w' := w') hf) hS px py hp hg
    have hn := fcode_ne its px
    clear h hS hg
    dsimp only
    generalize fcode its px = c at *
    go_enter Tryz.func46, Tryz.ntmps46
    go_wp2_with (first | (go_at_call 101; refine (HF _ (by (repeat (with_reducible first | exact Fr.refl _ | assumption | refine Fr.alloc ?_ _ | refine Fr.drew ?_ | refine Fr.drewN ?_ _ | refine Fr.set ?_ (by first | (simp; done) | (simp; omega)) _ | refine Fr.trans ?_ (by assumption))))).mono ?_; rintro e w1 ⟨rfl, hF1⟩; have hz1 := hF1.size; (try simp at hz1); (try (have hz1_0 : w.heap.size < w1.heap.size := (by omega))); have hc1 := hF1.cells; have hf1 := hF1.froz; have hg1_0 : ∀ o, w1.frozen? ⟨w.heap.size, o, none⟩ = false := (by intro o; rw [hf1 _ _ (by first | (simp; done) | (simp; omega) | omega)]; (first | (simp; done) | (simp [*]; done) | go_simp)); have hk1_0 : w1.cell? ⟨w.heap.size, 0, none⟩ = some (.int .i64 0) := (by rw [hc1 _ _ (by first | (simp; done) | (simp; omega) | omega)]; (first | (simp; done) | (simp [*]; done) | go_simp)); have hk1_1 : w1.cell? ⟨w.heap.size, 1, none⟩ = some (.int .u64 0) := (by rw [hc1 _ _ (by first | (simp; done) | (simp; omega) | omega)]; (first | (simp; done) | (simp [*]; done) | go_simp)); have hk1_2 : w1.cell? ⟨w.heap.size, 2, none⟩ = some (.string ⟨#[]⟩) := (by rw [hc1 _ _ (by first | (simp; done) | (simp; omega) | omega)]; (first | (simp; done) | (simp [*]; done) | go_simp))))
    exact bodyPost_ret (v := .tuple #[.agg #[.int .i64 0, .int .u64 0, .string ⟨#[]⟩], .int .i64 4]) (by simp [*, results, Tryz.results46, go_sem]) rfl (⟨rfl, by (repeat (with_reducible first | exact Fr.refl _ | assumption | refine Fr.alloc ?_ _ | refine Fr.drew ?_ | refine Fr.drewN ?_ _ | refine Fr.set ?_ (by first | (simp; done) | (simp; omega)) _ | refine Fr.trans ?_ (by assumption)))⟩)
  | some x =>
    have HF := fun w' hf => find_some (h.fr (w' := w') hf) hS px py hp hg
    have hm := (getI_some hg).1
    have hI := h.items x hm
    have k14 := hI.fact 14 (.int .i64 x.2.2.t) rfl
    have k15 := hI.fact 15 (.int .u64 x.2.2.n) rfl
    have k16 := hI.fact 16 (.string x.2.2.b) rfl
    have hlt := hI.lt
    clear h hS hg hm hI
    obtain ⟨b, e, ⟨t, n, bb⟩⟩ := x
    dsimp only at *
    have hne : b ≠ w.heap.size := Nat.ne_of_lt hlt
    go_enter Tryz.func46, Tryz.ntmps46
    go_wp2_with (first | (go_at_call 101; refine (HF _ (by (repeat (with_reducible first | exact Fr.refl _ | assumption | refine Fr.alloc ?_ _ | refine Fr.drew ?_ | refine Fr.drewN ?_ _ | refine Fr.set ?_ (by first | (simp; done) | (simp; omega)) _ | refine Fr.trans ?_ (by assumption))))).mono ?_; rintro e w1 ⟨rfl, hF1⟩; have hz1 := hF1.size; (try simp at hz1); (try (have hz1_0 : w.heap.size < w1.heap.size := (by omega))); (try (have hz1_1 : b < w1.heap.size := (by omega))); have hc1 := hF1.cells; have hf1 := hF1.froz; have hg1_0 : ∀ o, w1.frozen? ⟨w.heap.size, o, none⟩ = false := (by intro o; rw [hf1 _ _ (by first | (simp; done) | (simp; omega) | omega)]; (first | (simp; done) | (simp [*]; done) | go_simp)); have hk1_0 : w1.cell? ⟨w.heap.size, 0, none⟩ = some (.int .i64 0) := (by rw [hc1 _ _ (by first | (simp; done) | (simp; omega) | omega)]; (first | (simp; done) | (simp [*]; done) | go_simp)); have hk1_1 : w1.cell? ⟨w.heap.size, 1, none⟩ = some (.int .u64 0) := (by rw [hc1 _ _ (by first | (simp; done) | (simp; omega) | omega)]; (first | (simp; done) | (simp [*]; done) | go_simp)); have hk1_2 : w1.cell? ⟨w.heap.size, 2, none⟩ = some (.string ⟨#[]⟩) := (by rw [hc1 _ _ (by first | (simp; done) | (simp; omega) | omega)]; (first | (simp; done) | (simp [*]; done) | go_simp))))
    exact bodyPost_ret (v := .tuple #[.agg #[.int .i64 t, .int .u64 n, .string bb], .int .i64 0]) (by simp [*, results, Tryz.results46, go_sem]) rfl (⟨rfl, by (repeat (with_reducible first | exact Fr.refl _ | assumption | refine Fr.alloc ?_ _ | refine Fr.drew ?_ | refine Fr.drewN ?_ _ | refine Fr.set ?_ (by first | (simp; done) | (simp; omega)) _ | refine Fr.trans ?_ (by assumption)))⟩)

/-- od's Entry. -/
theorem entryAt_any {w : World} {db lo hi : Nat} {vl : Value} {its : List (Nat × E × V)} (h : PD w db lo hi vl its) (hS : PS its) (px py : Int) (hp : 0 ≤ py ∧ py ≤ 255) :
    Calls Tryz.prog 29 #[.pointer (some ⟨db, 0, none⟩), .int .u16 px, .int .u8 py] w fun e w' => e = .returned (.tuple #[(entX its px py).agg, .bool (entB its px py)]) ∧ Fr w w' := by
  unfold entX entB
  cases hg : getI its (px * 256 + py) with
  | none =>
    have HF := fun w' hf => find_none (h.fr (w' := w') hf) hS px py hp hg
    have hn := fcode_ne its px
    clear h hS hg
    dsimp only
    generalize fcode its px = c at *
    go_enter Tryz.func29, Tryz.ntmps29
    go_wp2_with (first | (go_at_call 101; refine (HF _ (by (repeat (with_reducible first | exact Fr.refl _ | assumption | refine Fr.alloc ?_ _ | refine Fr.drew ?_ | refine Fr.drewN ?_ _ | refine Fr.set ?_ (by first | (simp; done) | (simp; omega)) _ | refine Fr.trans ?_ (by assumption))))).mono ?_; rintro e w1 ⟨rfl, hF1⟩; have hz1 := hF1.size; (try simp at hz1); (try (have hz1_0 : w.heap.size < w1.heap.size := (by omega))); have hc1 := hF1.cells; have hf1 := hF1.froz; have hg1_0 : ∀ o, w1.frozen? ⟨w.heap.size, o, none⟩ = false := (by intro o; rw [hf1 _ _ (by first | (simp; done) | (simp; omega) | omega)]; (first | (simp; done) | (simp [*]; done) | go_simp)); have hk1_0 : w1.cell? ⟨w.heap.size, 0, none⟩ = some (.int .u16 0) := (by rw [hc1 _ _ (by first | (simp; done) | (simp; omega) | omega)]; (first | (simp; done) | (simp [*]; done) | go_simp)); have hk1_1 : w1.cell? ⟨w.heap.size, 1, none⟩ = some (.int .u8 0) := (by rw [hc1 _ _ (by first | (simp; done) | (simp; omega) | omega)]; (first | (simp; done) | (simp [*]; done) | go_simp)); have hk1_2 : w1.cell? ⟨w.heap.size, 2, none⟩ = some (.int .i64 0) := (by rw [hc1 _ _ (by first | (simp; done) | (simp; omega) | omega)]; (first | (simp; done) | (simp [*]; done) | go_simp)); have hk1_3 : w1.cell? ⟨w.heap.size, 3, none⟩ = some (.bool false) := (by rw [hc1 _ _ (by first | (simp; done) | (simp; omega) | omega)]; (first | (simp; done) | (simp [*]; done) | go_simp)); have hk1_4 : w1.cell? ⟨w.heap.size, 4, none⟩ = some (.bool false) := (by rw [hc1 _ _ (by first | (simp; done) | (simp; omega) | omega)]; (first | (simp; done) | (simp [*]; done) | go_simp)); have hk1_5 : w1.cell? ⟨w.heap.size, 5, none⟩ = some (.int .i64 0) := (by rw [hc1 _ _ (by first | (simp; done) | (simp; omega) | omega)]; (first | (simp; done) | (simp [*]; done) | go_simp)); have hk1_6 : w1.cell? ⟨w.heap.size, 6, none⟩ = some (.int .u64 0) := (by rw [hc1 _ _ (by first | (simp; done) | (simp; omega) | omega)]; (first | (simp; done) | (simp [*]; done) | go_simp)); have hk1_7 : w1.cell? ⟨w.heap.size, 7, none⟩ = some (.string ⟨#[]⟩) := (by rw [hc1 _ _ (by first | (simp; done) | (simp; omega) | omega)]; (first | (simp; done) | (simp [*]; done) | go_simp)); have hk1_8 : w1.cell? ⟨w.heap.size, 8, none⟩ = some (.int .i64 0) := (by rw [hc1 _ _ (by first | (simp; done) | (simp; omega) | omega)]; (first | (simp; done) | (simp [*]; done) | go_simp)); have hk1_9 : w1.cell? ⟨w.heap.size, 9, none⟩ = some (.int .u64 0) := (by rw [hc1 _ _ (by first | (simp; done) | (simp; omega) | omega)]; (first | (simp; done) | (simp [*]; done) | go_simp)); have hk1_10 : w1.cell? ⟨w.heap.size, 10, none⟩ = some (.string ⟨#[]⟩) := (by rw [hc1 _ _ (by first | (simp; done) | (simp; omega) | omega)]; (first | (simp; done) | (simp [*]; done) | go_simp)); have hk1_11 : w1.cell? ⟨w.heap.size, 11, none⟩ = some (.int .i64 0) := (by rw [hc1 _ _ (by first | (simp; done) | (simp; omega) | omega)]; (first | (simp; done) | (simp [*]; done) | go_simp)); have hk1_12 : w1.cell? ⟨w.heap.size, 12, none⟩ = some (.int .u64 0) := (by rw [hc1 _ _ (by first | (simp; done) | (simp; omega) | omega)]; (first | (simp; done) | (simp [*]; done) | go_simp)); have hk1_13 : w1.cell? ⟨w.heap.size, 13, none⟩ = some (.string ⟨#[]⟩) := (by rw [hc1 _ _ (by first | (simp; done) | (simp; omega) | omega)]; (first | (simp; done) | (simp [*]; done) | go_simp))))
    exact bodyPost_ret (v := .tuple #[.agg #[.int .u16 0, .int .u8 0, .int .i64 0, .bool false, .bool false, .int .i64 0, .int .u64 0, .string ⟨#[]⟩, .int .i64 0, .int .u64 0, .string ⟨#[]⟩, .int .i64 0, .int .u64 0, .string ⟨#[]⟩], .bool false]) (by simp [*, results, Tryz.results29, go_sem]) rfl (⟨rfl, by (repeat (with_reducible first | exact Fr.refl _ | assumption | refine Fr.alloc ?_ _ | refine Fr.drew ?_ | refine Fr.drewN ?_ _ | refine Fr.set ?_ (by first | (simp; done) | (simp; omega)) _ | refine Fr.trans ?_ (by assumption)))⟩)
  | some x =>
    have HF := fun w' hf => find_some (h.fr (w' := w') hf) hS px py hp hg
    have hm := (getI_some hg).1
    have hI := h.items x hm
    have hlt := hI.lt
    clear h hS hg hm
    obtain ⟨b, ⟨ix, sub, acc, mp, lim, ⟨t1, n1, b1⟩, ⟨t2, n2, b2⟩, ⟨t3, n3, b3⟩⟩, v⟩ := x
    dsimp only at *
    have k0 := hI.fact 0 (.int .u16 ix) rfl
    have k1 := hI.fact 1 (.int .u8 sub) rfl
    have k2 := hI.fact 2 (.int .i64 acc) rfl
    have k3 := hI.fact 3 (.bool mp) rfl
    have k4 := hI.fact 4 (.bool lim) rfl
    have k5 := hI.fact 5 (.int .i64 t1) rfl
    have k6 := hI.fact 6 (.int .u64 n1) rfl
    have k7 := hI.fact 7 (.string b1) rfl
    have k8 := hI.fact 8 (.int .i64 t2) rfl
    have k9 := hI.fact 9 (.int .u64 n2) rfl
    have k10 := hI.fact 10 (.string b2) rfl
    have k11 := hI.fact 11 (.int .i64 t3) rfl
    have k12 := hI.fact 12 (.int .u64 n3) rfl
    have k13 := hI.fact 13 (.string b3) rfl
    clear hI
    have hne : b ≠ w.heap.size := Nat.ne_of_lt hlt
    go_enter Tryz.func29, Tryz.ntmps29
    go_wp2_with (first | (go_at_call 101; refine (HF _ (by (repeat (with_reducible first | exact Fr.refl _ | assumption | refine Fr.alloc ?_ _ | refine Fr.drew ?_ | refine Fr.drewN ?_ _ | refine Fr.set ?_ (by first | (simp; done) | (simp; omega)) _ | refine Fr.trans ?_ (by assumption))))).mono ?_; rintro e w1 ⟨rfl, hF1⟩; have hz1 := hF1.size; (try simp at hz1); (try (have hz1_0 : w.heap.size < w1.heap.size := (by omega))); (try (have hz1_1 : b < w1.heap.size := (by omega))); have hc1 := hF1.cells; have hf1 := hF1.froz; have hg1_0 : ∀ o, w1.frozen? ⟨w.heap.size, o, none⟩ = false := (by intro o; rw [hf1 _ _ (by first | (simp; done) | (simp; omega) | omega)]; (first | (simp; done) | (simp [*]; done) | go_simp)); have hk1_0 : w1.cell? ⟨w.heap.size, 0, none⟩ = some (.int .u16 0) := (by rw [hc1 _ _ (by first | (simp; done) | (simp; omega) | omega)]; (first | (simp; done) | (simp [*]; done) | go_simp)); have hk1_1 : w1.cell? ⟨w.heap.size, 1, none⟩ = some (.int .u8 0) := (by rw [hc1 _ _ (by first | (simp; done) | (simp; omega) | omega)]; (first | (simp; done) | (simp [*]; done) | go_simp)); have hk1_2 : w1.cell? ⟨w.heap.size, 2, none⟩ = some (.int .i64 0) := (by rw [hc1 _ _ (by first | (simp; done) | (simp; omega) | omega)]; (first | (simp; done) | (simp [*]; done) | go_simp)); have hk1_3 : w1.cell? ⟨w.heap.size, 3, none⟩ = some (.bool false) := (by rw [hc1 _ _ (by first | (simp; done) | (simp; omega) | omega)]; (first | (simp; done) | (simp [*]; done) | go_simp)); have hk1_4 : w1.cell? ⟨w.heap.size, 4, none⟩ = some (.bool false) := (by rw [hc1 _ _ (by first | (simp; done) | (simp; omega) | omega)]; (first | (simp; done) | (simp [*]; done) | go_simp)); have hk1_5 : w1.cell? ⟨w.heap.size, 5, none⟩ = some (.int .i64 0) := (by rw [hc1 _ _ (by first | (simp; done) | (simp; omega) | omega)]; (first | (simp; done) | (simp [*]; done) | go_simp)); have hk1_6 : w1.cell? ⟨w.heap.size, 6, none⟩ = some (.int .u64 0) := (by rw [hc1 _ _ (by first | (simp; done) | (simp; omega) | omega)]; (first | (simp; done) | (simp [*]; done) | go_simp)); have hk1_7 : w1.cell? ⟨w.heap.size, 7, none⟩ = some (.string ⟨#[]⟩) := (by rw [hc1 _ _ (by first | (simp; done) | (simp; omega) | omega)]; (first | (simp; done) | (simp [*]; done) | go_simp)); have hk1_8 : w1.cell? ⟨w.heap.size, 8, none⟩ = some (.int .i64 0) := (by rw [hc1 _ _ (by first | (simp; done) | (simp; omega) | omega)]; (first | (simp; done) | (simp [*]; done) | go_simp)); have hk1_9 : w1.cell? ⟨w.heap.size, 9, none⟩ = some (.int .u64 0) := (by rw [hc1 _ _ (by first | (simp; done) | (simp; omega) | omega)]; (first | (simp; done) | (simp [*]; done) | go_simp)); have hk1_10 : w1.cell? ⟨w.heap.size, 10, none⟩ = some (.string ⟨#[]⟩) := (by rw [hc1 _ _ (by first | (simp; done) | (simp; omega) | omega)]; (first | (simp; done) | (simp [*]; done) | go_simp)); have hk1_11 : w1.cell? ⟨w.heap.size, 11, none⟩ = some (.int .i64 0) := (by rw [hc1 _ _ (by first | (simp; done) | (simp; omega) | omega)]; (first | (simp; done) | (simp [*]; done) | go_simp)); have hk1_12 : w1.cell? ⟨w.heap.size, 12, none⟩ = some (.int .u64 0) := (by rw [hc1 _ _ (by first | (simp; done) | (simp; omega) | omega)]; (first | (simp; done) | (simp [*]; done) | go_simp)); have hk1_13 : w1.cell? ⟨w.heap.size, 13, none⟩ = some (.string ⟨#[]⟩) := (by rw [hc1 _ _ (by first | (simp; done) | (simp; omega) | omega)]; (first | (simp; done) | (simp [*]; done) | go_simp))))
    exact bodyPost_ret (v := .tuple #[.agg #[.int .u16 ix, .int .u8 sub, .int .i64 acc, .bool mp, .bool lim, .int .i64 t1, .int .u64 n1, .string b1, .int .i64 t2, .int .u64 n2, .string b2, .int .i64 t3, .int .u64 n3, .string b3], .bool true]) (by simp [*, results, Tryz.results29, go_sem]) rfl (⟨rfl, by (repeat (with_reducible first | exact Fr.refl _ | assumption | refine Fr.alloc ?_ _ | refine Fr.drew ?_ | refine Fr.drewN ?_ _ | refine Fr.set ?_ (by first | (simp; done) | (simp; omega)) _ | refine Fr.trans ?_ (by assumption)))⟩)

end Go.Proofs.YtmllpkpdfhniaaaGreat
