/- The document's dictionary (ref08): New: the walk. -/
import Derived.Test.YtmllpkpdfhniaaaGreatJBRgC
import Derived.Test.YtmllpkpdfhniaaaGreatJABy
set_option linter.unusedVariables false
set_option linter.unusedSimpArgs false
namespace Go.Proofs.YtmllpkpdfhniaaaGreat
open Go.RowKit Go.Sort
attribute [local irreducible] Go.wpQuiet


theorem Rd.zero (w : World) (sz : Nat) (A : Option Addr) (c : Nat) {n : Nat} {cs : List Value} (hn : n = 0) (hl : cs.length = 0) (hc : c ≤ 9223372036854775807) : Rd w sz (.slice A n c) n cs :=
  ⟨by rw [hn, hl]; simp, A, c, rfl, by omega, hc, .inl hn⟩

/-- What New hands back where the entries can be a dictionary. -/
def RMade (w : World) (l : List E) (e : Ending) (w' : World) : Prop := ∃ D lv vv, e = .returned (.tuple #[.pointer (some ⟨D, 0, none⟩), .int .i64 0]) ∧ w.heap.size ≤ D ∧ RD w' D lv vv ((insL l).map fun e => (e, e.df)) ∧
  (∀ g, lv.ownBlock = some g → w.heap.size ≤ g ∧ g < w'.heap.size) ∧ (∀ g, vv.ownBlock = some g → w.heap.size ≤ g ∧ g < w'.heap.size) ∧ Fr w w'

namespace Reg
def Rnew12.T : Bool × List (List Nat × List Nat) := (true, [([], []), ([], []), ([1], [1]), ([2], [2]), ([3], [3]), ([], []), ([4, 5], [4, 5]), ([0, 6], [0, 6]), ([], []), ([8], [8]), ([7, 9, 7], [7, 9]), ([10, 10, 0, 1, 2, 3, 4, 5, 6, 7, 8, 9, 10], [10])])
def Rnew12.B : List Nat := [0, 0, 2, 6, 14, 0, 62, 127, 0, 256, 1023, 2047]
theorem Rnew12.tab : Reg.rtab .any (Reg.opsOf Tryz.f90 12) = Rnew12.T := by kernel_rfl
theorem Rnew12.bits : Reg.waitsOk Rnew12.T.2 Rnew12.B = true := by kernel_rfl

def Rnew10.T : Bool × List (List Nat × List Nat) := (true, [([], []), ([], []), ([1], [1]), ([2], [2]), ([3], [3]), ([4], [4]), ([0, 5], [0, 5]), ([6], [6]), ([7], [7]), ([8, 7], [7, 8]), ([9, 7], [7, 9]), ([10, 7], [7, 10]), ([7], [7]), ([11, 12, 7], [7, 11, 12]), ([13, 7], [7, 13]), ([14, 7, 7], [7, 14]), ([7], [7]), ([16, 15, 7], [7, 16]), ([15, 17, 7], [7, 15, 17]), ([7, 18], [7, 18])])
def Rnew10.B : List Nat := [0, 0, 2, 6, 14, 30, 63, 127, 255, 511, 1023, 2047, 255, 8191, 16383, 32767, 255, 131071, 262143, 524287]
theorem Rnew10.tab : Reg.rtab .any (Reg.opsOf Tryz.f90 10) = Rnew10.T := by kernel_rfl
theorem Rnew10.bits : Reg.waitsOk Rnew10.T.2 Rnew10.B = true := by kernel_rfl

end Reg
open Reg in
set_option maxRecDepth 100000 in
set_option maxHeartbeats 8000000 in
theorem rnew_walk (l : List E) (hwf : ∀ e ∈ l, e.wf) (b o c : Nat) (hlc : l.length ≤ c) (hn : ¬ (1024 : Int) < l.length) (w : World) (hb : b < w.heap.size)
    (hx : ∀ j u, (l.map E.cells).flatten[j]? = some u → w.cell? ⟨b, o + j, none⟩ = some u)
    (HC : ∀ w', Fr w w' → Calls Tryz.prog 142 #[.slice (some ⟨b, o, none⟩) l.length c] w' fun e w'' => e = .returned (.int .i64 0) ∧ Fr w' w'') :
    Calls Tryz.prog 90 #[.slice (some ⟨b, o, none⟩) l.length c] w fun e w' => RMade w l e w' := by
  have HX : Hid (∀ wr k j e u, Fr w wr → l[k]? = some e → e.cells[j]? = some u → wr.cell? ⟨b, o + (k * 14 + j), none⟩ = some u) :=
    Lib.hid fun wr k j e u hF he hu => (hF.cells b _ hb).trans (hx _ u ((flat_at E.cells 14 E.len l k j e he (List.getElem?_eq_some_iff.1 hu).1).trans hu))
  have HW := Lib.hid hwf
  have mx := mixed
  clear hx hwf
  go_enter Tryz.func90, Tryz.ntmps90
  go_wp2_with (first | (go_at_call 142; refine (HC _ (by (repeat (with_reducible first | exact Fr.refl _ | assumption | refine Fr.alloc ?_ _ | refine Fr.drew ?_ | refine Fr.drewN ?_ _ | refine Fr.set ?_ (by first | (simp; done) | (simp; omega)) _ | refine Fr.trans ?_ (by assumption))))).mono ?_; rintro e w1 ⟨rfl, hF1⟩; have hz1 := hF1.size; (try simp at hz1); have hc1 := hF1.cells; have hf1 := hF1.froz) | fail)
  clear HC
  obtain ⟨D, hDD⟩ : ∃ D, D = w1.heap.size := ⟨_, rfl⟩
  rw [← hDD]
  have hwD : w.heap.size ≤ D := by omega
  have hD1 : Hid ((w1.alloc (.cells #[.slice none 0 0, .slice none 0 0] 175)).heap[D]? = some (.cells #[.slice none 0 0, .slice none 0 0] 175 (0, 0))) := Lib.hid (by rw [hDD]; exact heap_alloc_new _ _)
  have HDD := Lib.hid hDD
  clear hDD
  go_loopw [6] (fun i wr => ∃ (k : Nat) (lv : Value) (dl : List E), k ≤ l.length ∧ i = .int .i64 k ∧ Fr w wr ∧ Hid (wr.heap[D]? = some (.cells #[lv, .slice none 0 0] 175 (0, 0))) ∧ Hid (wr.ownsRow w.heap.size 46 14 lv dl.length (dl.map E.cells).flatten) ∧ Hid (dl = insL (l.take k))) (fun i _ => l.length - (intOf i).toNat)
  case atStart => exact ⟨0, _, [], Nat.zero_le _, rfl, hF1.alloc _, hD1, Lib.hid (World.ownsRow_nil _ _ _ _), Lib.hid rfl⟩
  case round =>
    obtain ⟨k, lv, dl, hk, rfl, hF, hD, hO, hI⟩ := hrel
    by_cases hlt : k < l.length
    · obtain ⟨e, he⟩ : ∃ e, l[k]? = some e := ⟨l[k], List.getElem?_eq_getElem hlt⟩
      have hcell := fun j u => HX.out wr k j e u hF he
      have hEW := HW.out e (List.mem_of_getElem? he)
      have hit := insL_take l k e he
      have HP := rplain_any e.df
      have hdw : ∀ y ∈ dl, y.wf := by rw [hI.out]; exact insL_wf fun y hy => HW.out y (List.mem_of_mem_take hy)
      have hdl : dl.length = k := by rw [hI.out, insL_len, List.length_take]; omega
      obtain ⟨x, hxe⟩ : ∃ x, x = e.pln := ⟨_, rfl⟩
      have hxw : x.wf := by rw [hxe]; exact E.pln_wf hEW
      rw [← hxe, ← hI.out] at hit
      have HPX := rplace_gr x hxw
      obtain ⟨ix, sub, acc, mp, lim, ⟨t1, n1, b1⟩, ⟨t2, n2, b2⟩, ⟨t3, n3, b3⟩⟩ := e
      unfold E.pln at hxe
      dsimp only at HP hxe
      generalize plainV ⟨t3, n3, b3⟩ = pv at *
      obtain ⟨p1, p2, p3⟩ := pv
      unfold V.agg at HP
      dsimp only at HP
      unfold E.agg at HPX
      rw [hxe] at HPX
      dsimp only at HPX
      rw [← hxe] at HPX
      have hk0 : wr.cell? ⟨b, o + k * 14, none⟩ = some (.int .u16 ix) := (congrArg (fun z => wr.cell? ⟨b, z, none⟩) (by omega)).trans (hcell 0 _ rfl)
      have hk1 : wr.cell? ⟨b, o + k * 14 + 1, none⟩ = some (.int .u8 sub) := (congrArg (fun z => wr.cell? ⟨b, z, none⟩) (by omega)).trans (hcell 1 _ rfl)
      have hk2 : wr.cell? ⟨b, o + k * 14 + 2, none⟩ = some (.int .i64 acc) := (congrArg (fun z => wr.cell? ⟨b, z, none⟩) (by omega)).trans (hcell 2 _ rfl)
      have hk3 : wr.cell? ⟨b, o + k * 14 + 3, none⟩ = some (.bool mp) := (congrArg (fun z => wr.cell? ⟨b, z, none⟩) (by omega)).trans (hcell 3 _ rfl)
      have hk4 : wr.cell? ⟨b, o + k * 14 + 4, none⟩ = some (.bool lim) := (congrArg (fun z => wr.cell? ⟨b, z, none⟩) (by omega)).trans (hcell 4 _ rfl)
      have hk5 : wr.cell? ⟨b, o + k * 14 + 5, none⟩ = some (.int .i64 t1) := (congrArg (fun z => wr.cell? ⟨b, z, none⟩) (by omega)).trans (hcell 5 _ rfl)
      have hk6 : wr.cell? ⟨b, o + k * 14 + 6, none⟩ = some (.int .u64 n1) := (congrArg (fun z => wr.cell? ⟨b, z, none⟩) (by omega)).trans (hcell 6 _ rfl)
      have hk7 : wr.cell? ⟨b, o + k * 14 + 7, none⟩ = some (.string b1) := (congrArg (fun z => wr.cell? ⟨b, z, none⟩) (by omega)).trans (hcell 7 _ rfl)
      have hk8 : wr.cell? ⟨b, o + k * 14 + 8, none⟩ = some (.int .i64 t2) := (congrArg (fun z => wr.cell? ⟨b, z, none⟩) (by omega)).trans (hcell 8 _ rfl)
      have hk9 : wr.cell? ⟨b, o + k * 14 + 9, none⟩ = some (.int .u64 n2) := (congrArg (fun z => wr.cell? ⟨b, z, none⟩) (by omega)).trans (hcell 9 _ rfl)
      have hk10 : wr.cell? ⟨b, o + k * 14 + 10, none⟩ = some (.string b2) := (congrArg (fun z => wr.cell? ⟨b, z, none⟩) (by omega)).trans (hcell 10 _ rfl)
      have hk11 : wr.cell? ⟨b, o + k * 14 + 11, none⟩ = some (.int .i64 t3) := (congrArg (fun z => wr.cell? ⟨b, z, none⟩) (by omega)).trans (hcell 11 _ rfl)
      have hk12 : wr.cell? ⟨b, o + k * 14 + 12, none⟩ = some (.int .u64 n3) := (congrArg (fun z => wr.cell? ⟨b, z, none⟩) (by omega)).trans (hcell 12 _ rfl)
      have hk13 : wr.cell? ⟨b, o + k * 14 + 13, none⟩ = some (.string b3) := (congrArg (fun z => wr.cell? ⟨b, z, none⟩) (by omega)).trans (hcell 13 _ rfl)
      have HXE := Lib.hid hxe
      have HIT := Lib.hid hit
      have HDL := Lib.hid hdl
      have hdl2 : dl.length < 1024 := by omega
      have hDlt := (Array.getElem?_eq_some_iff.1 hD.out).1
      have hwr := hF.size
      have hblt : b < wr.heap.size := by omega
      have g1 : (0 : Int) ≤ (k : Int) := by omega
      have g2 : (k : Int) < (l.length : Int) := by omega
      clear hcell hit hEW hxe he hdl
      go_wp2_with (first | (go_at_call 116; refine (HP _).mono ?_; rintro e w2 ⟨rfl, hF2⟩; have hz2 := hF2.size; (try simp at hz2); (try (have hz2_0 : wr.heap.size < w2.heap.size := (by omega))); have hc2 := hF2.cells; have hf2 := hF2.froz; have hg2_0 : ∀ o, w2.frozen? ⟨wr.heap.size, o, none⟩ = false := (by intro o; rw [hf2 _ _ (by first | (simp; done) | (simp; omega) | omega)]; (first | (simp; done) | (simp [*]; done) | go_simp)); have hk2_0 : w2.cell? ⟨wr.heap.size, 0, none⟩ = some (.int .u16 ix) := (by rw [hc2 _ _ (by first | (simp; done) | (simp; omega) | omega)]; (first | (simp; done) | (simp [*]; done) | go_simp)); have hk2_1 : w2.cell? ⟨wr.heap.size, 1, none⟩ = some (.int .u8 sub) := (by rw [hc2 _ _ (by first | (simp; done) | (simp; omega) | omega)]; (first | (simp; done) | (simp [*]; done) | go_simp)); have hk2_2 : w2.cell? ⟨wr.heap.size, 2, none⟩ = some (.int .i64 acc) := (by rw [hc2 _ _ (by first | (simp; done) | (simp; omega) | omega)]; (first | (simp; done) | (simp [*]; done) | go_simp)); have hk2_3 : w2.cell? ⟨wr.heap.size, 3, none⟩ = some (.bool mp) := (by rw [hc2 _ _ (by first | (simp; done) | (simp; omega) | omega)]; (first | (simp; done) | (simp [*]; done) | go_simp)); have hk2_4 : w2.cell? ⟨wr.heap.size, 4, none⟩ = some (.bool lim) := (by rw [hc2 _ _ (by first | (simp; done) | (simp; omega) | omega)]; (first | (simp; done) | (simp [*]; done) | go_simp)); have hk2_5 : w2.cell? ⟨wr.heap.size, 5, none⟩ = some (.int .i64 t1) := (by rw [hc2 _ _ (by first | (simp; done) | (simp; omega) | omega)]; (first | (simp; done) | (simp [*]; done) | go_simp)); have hk2_6 : w2.cell? ⟨wr.heap.size, 6, none⟩ = some (.int .u64 n1) := (by rw [hc2 _ _ (by first | (simp; done) | (simp; omega) | omega)]; (first | (simp; done) | (simp [*]; done) | go_simp)); have hk2_7 : w2.cell? ⟨wr.heap.size, 7, none⟩ = some (.string b1) := (by rw [hc2 _ _ (by first | (simp; done) | (simp; omega) | omega)]; (first | (simp; done) | (simp [*]; done) | go_simp)); have hk2_8 : w2.cell? ⟨wr.heap.size, 8, none⟩ = some (.int .i64 t2) := (by rw [hc2 _ _ (by first | (simp; done) | (simp; omega) | omega)]; (first | (simp; done) | (simp [*]; done) | go_simp)); have hk2_9 : w2.cell? ⟨wr.heap.size, 9, none⟩ = some (.int .u64 n2) := (by rw [hc2 _ _ (by first | (simp; done) | (simp; omega) | omega)]; (first | (simp; done) | (simp [*]; done) | go_simp)); have hk2_10 : w2.cell? ⟨wr.heap.size, 10, none⟩ = some (.string b2) := (by rw [hc2 _ _ (by first | (simp; done) | (simp; omega) | omega)]; (first | (simp; done) | (simp [*]; done) | go_simp)); have hk2_11 : w2.cell? ⟨wr.heap.size, 11, none⟩ = some (.int .i64 t3) := (by rw [hc2 _ _ (by first | (simp; done) | (simp; omega) | omega)]; (first | (simp; done) | (simp [*]; done) | go_simp)); have hk2_12 : w2.cell? ⟨wr.heap.size, 12, none⟩ = some (.int .u64 n3) := (by rw [hc2 _ _ (by first | (simp; done) | (simp; omega) | omega)]; (first | (simp; done) | (simp [*]; done) | go_simp)); have hk2_13 : w2.cell? ⟨wr.heap.size, 13, none⟩ = some (.string b3) := (by rw [hc2 _ _ (by first | (simp; done) | (simp; omega) | omega)]; (first | (simp; done) | (simp [*]; done) | go_simp))) | fail)
      obtain ⟨X, hXX⟩ : ∃ X, X = wr.heap.size := ⟨_, rfl⟩
      obtain ⟨W3, hW3⟩ : ∃ W3, W3 = (((w2.setCell ⟨wr.heap.size, 11, none⟩ (.int .i64 p1)).setCell ⟨wr.heap.size, 12, none⟩ (.int .u64 p2)).setCell ⟨wr.heap.size, 13, none⟩ (.string p3)) := ⟨_, rfl⟩
      rw [← hW3]
      have hFW : Fr wr W3 := by rw [hW3]; (repeat (with_reducible first | exact Fr.refl _ | assumption | refine Fr.alloc ?_ _ | refine Fr.drew ?_ | refine Fr.drewN ?_ _ | refine Fr.set ?_ (by first | (simp; done) | (simp; omega)) _ | refine Fr.trans ?_ (by assumption)))
      have hz3 : wr.heap.size < W3.heap.size := by rw [hW3]; simp; omega
      have m0 : W3.cell? ⟨wr.heap.size, 0, none⟩ = some (.int .u16 ix) := by rw [hW3]; go_simp
      have m1 : W3.cell? ⟨wr.heap.size, 1, none⟩ = some (.int .u8 sub) := by rw [hW3]; go_simp
      have m2 : W3.cell? ⟨wr.heap.size, 2, none⟩ = some (.int .i64 acc) := by rw [hW3]; go_simp
      have m3 : W3.cell? ⟨wr.heap.size, 3, none⟩ = some (.bool mp) := by rw [hW3]; go_simp
      have m4 : W3.cell? ⟨wr.heap.size, 4, none⟩ = some (.bool lim) := by rw [hW3]; go_simp
      have m5 : W3.cell? ⟨wr.heap.size, 5, none⟩ = some (.int .i64 t1) := by rw [hW3]; go_simp
      have m6 : W3.cell? ⟨wr.heap.size, 6, none⟩ = some (.int .u64 n1) := by rw [hW3]; go_simp
      have m7 : W3.cell? ⟨wr.heap.size, 7, none⟩ = some (.string b1) := by rw [hW3]; go_simp
      have m8 : W3.cell? ⟨wr.heap.size, 8, none⟩ = some (.int .i64 t2) := by rw [hW3]; go_simp
      have m9 : W3.cell? ⟨wr.heap.size, 9, none⟩ = some (.int .u64 n2) := by rw [hW3]; go_simp
      have m10 : W3.cell? ⟨wr.heap.size, 10, none⟩ = some (.string b2) := by rw [hW3]; go_simp
      have m11 : W3.cell? ⟨wr.heap.size, 11, none⟩ = some (.int .i64 p1) := by rw [hW3]; go_simp
      have m12 : W3.cell? ⟨wr.heap.size, 12, none⟩ = some (.int .u64 p2) := by rw [hW3]; go_simp
      have m13 : W3.cell? ⟨wr.heap.size, 13, none⟩ = some (.string p3) := by rw [hW3]; go_simp
      clear hW3 hk0 hk1 hk2 hk3 hk4 hk5 hk6 hk7 hk8 hk9 hk10 hk11 hk12 hk13 hc2 hf2
      clear hk2_0
      clear hk2_1
      clear hk2_2
      clear hk2_3
      clear hk2_4
      clear hk2_5
      clear hk2_6
      clear hk2_7
      clear hk2_8
      clear hk2_9
      clear hk2_10
      clear hk2_11
      clear hk2_12
      clear hk2_13
      clear hg2_0 hz2_0
      have hDX : D ≠ X := by omega
      have hbX : b ≠ X := by omega
      have hwX : w.heap.size ≤ X := by omega
      rw [← hXX] at *
      have hD3 := hFW.at_ hD.out
      have hO3 := ownsRow_fr hO.out hFW
      have hD3' := hD3
      obtain ⟨A, cap, hlvs⟩ : ∃ (A : Option Addr) (cap : Nat), lv = .slice A dl.length cap := by
        rcases hO3.2 with ⟨h1, h2⟩ | ⟨g, cap, cur, hv, _⟩
        · exact ⟨none, 0, by rw [h1, h2]⟩
        · exact ⟨_, _, hv⟩
      subst hlvs
      have hR3 := Lib.hid (Rd.of_own hO3)
      have HO3 := Lib.hid hO3
      have HD3 := Lib.hid hD3
      have HDW := Lib.hid hdw
      have hcapn : dl.length ≤ cap := by
        obtain ⟨_, A', c', hv, hn', _⟩ := hR3.out
        cases hv
        exact hn'
      have HCM : Hid (cap ≤ 9223372036854775807) := Lib.hid (by
        obtain ⟨_, A', c', hv, _, hc', _⟩ := hR3.out
        cases hv
        exact hc')
      have hD3lt : D < W3.heap.size := by have := (Array.getElem?_eq_some_iff.1 hD3).1; omega
      clear hD3 hO3 hdw hD3'
      obtain ⟨wo, rfl⟩ : ∃ wo : World, wo = wr := ⟨_, rfl⟩
      go_loopw [8] (fun a wr2 => ∃ m : Nat, m ≤ dl.length ∧ a = .int .i64 m ∧ Fr W3 wr2 ∧ Hid (∀ j y, j < m → dl[j]? = some y → y.pl < x.pl)) (fun a _ => dl.length - (intOf a).toNat)
      case atStart => exact ⟨0, Nat.zero_le _, rfl, Fr.refl _, Lib.hid fun j y h => absurd h (Nat.not_lt_zero _)⟩
      case round =>
        obtain ⟨m, hm, rfl, hFm, hz⟩ := hrel
        have cD : ∀ n os, (grow (wr.drewN n) os).cell? ⟨D, 0, none⟩ = some (.slice A dl.length cap) := fun n os => cell0 ((hFm.trans (Gr.fr ⟨n, os, rfl⟩)).at_ HD3.out)
        have x0 : ∀ n os, (grow (wr.drewN n) os).cell? ⟨X, 0, none⟩ = some (.int .u16 ix) := fun n os => (hFm.trans (Gr.fr ⟨n, os, rfl⟩)).cell m0
        have x1 : ∀ n os, (grow (wr.drewN n) os).cell? ⟨X, 1, none⟩ = some (.int .u8 sub) := fun n os => (hFm.trans (Gr.fr ⟨n, os, rfl⟩)).cell m1
        have x2 : ∀ n os, (grow (wr.drewN n) os).cell? ⟨X, 2, none⟩ = some (.int .i64 acc) := fun n os => (hFm.trans (Gr.fr ⟨n, os, rfl⟩)).cell m2
        have x3 : ∀ n os, (grow (wr.drewN n) os).cell? ⟨X, 3, none⟩ = some (.bool mp) := fun n os => (hFm.trans (Gr.fr ⟨n, os, rfl⟩)).cell m3
        have x4 : ∀ n os, (grow (wr.drewN n) os).cell? ⟨X, 4, none⟩ = some (.bool lim) := fun n os => (hFm.trans (Gr.fr ⟨n, os, rfl⟩)).cell m4
        have x5 : ∀ n os, (grow (wr.drewN n) os).cell? ⟨X, 5, none⟩ = some (.int .i64 t1) := fun n os => (hFm.trans (Gr.fr ⟨n, os, rfl⟩)).cell m5
        have x6 : ∀ n os, (grow (wr.drewN n) os).cell? ⟨X, 6, none⟩ = some (.int .u64 n1) := fun n os => (hFm.trans (Gr.fr ⟨n, os, rfl⟩)).cell m6
        have x7 : ∀ n os, (grow (wr.drewN n) os).cell? ⟨X, 7, none⟩ = some (.string b1) := fun n os => (hFm.trans (Gr.fr ⟨n, os, rfl⟩)).cell m7
        have x8 : ∀ n os, (grow (wr.drewN n) os).cell? ⟨X, 8, none⟩ = some (.int .i64 t2) := fun n os => (hFm.trans (Gr.fr ⟨n, os, rfl⟩)).cell m8
        have x9 : ∀ n os, (grow (wr.drewN n) os).cell? ⟨X, 9, none⟩ = some (.int .u64 n2) := fun n os => (hFm.trans (Gr.fr ⟨n, os, rfl⟩)).cell m9
        have x10 : ∀ n os, (grow (wr.drewN n) os).cell? ⟨X, 10, none⟩ = some (.string b2) := fun n os => (hFm.trans (Gr.fr ⟨n, os, rfl⟩)).cell m10
        have x11 : ∀ n os, (grow (wr.drewN n) os).cell? ⟨X, 11, none⟩ = some (.int .i64 p1) := fun n os => (hFm.trans (Gr.fr ⟨n, os, rfl⟩)).cell m11
        have x12 : ∀ n os, (grow (wr.drewN n) os).cell? ⟨X, 12, none⟩ = some (.int .u64 p2) := fun n os => (hFm.trans (Gr.fr ⟨n, os, rfl⟩)).cell m12
        have x13 : ∀ n os, (grow (wr.drewN n) os).cell? ⟨X, 13, none⟩ = some (.string p3) := fun n os => (hFm.trans (Gr.fr ⟨n, os, rfl⟩)).cell m13
        have hpx := fun n os => HPX (grow (wr.drewN n) os)
        generalize hxp : x.pl = px at *
        have HXP := Lib.hid hxp
        clear hxp
        rcases Classical.em (m < dl.length) with hml | hml
        · obtain ⟨y, hy⟩ : ∃ y, dl[m]? = some y := ⟨dl[m], List.getElem?_eq_getElem hml⟩
          obtain ⟨g, hA⟩ : ∃ g, A = some ⟨g, 0, none⟩ := by
            obtain ⟨g, c', hv, _⟩ := World.ownsRow.form HO3.out (by omega)
            cases hv
            exact ⟨_, rfl⟩
          subst hA
          have hyc : ∀ j u, y.cells[j]? = some u → ∀ n os, (grow (wr.drewN n) os).cell? ⟨g, m * 14 + j, none⟩ = some u := fun j u hu n os => by
            obtain ⟨_, A', c', hv, _, _, hh⟩ := hR3.out
            cases hv
            rcases hh with h0 | ⟨b', o', hA', hb', hh⟩
            · omega
            · cases hA'
              have := hh _ u ((flat_at E.cells 14 E.len dl m j y hy (List.getElem?_eq_some_iff.1 hu).1).trans hu)
              rw [Nat.zero_add] at this
              exact (hFm.trans (Gr.fr ⟨n, os, rfl⟩)).cell this
          have hyw := HDW.out y (List.mem_of_getElem? hy)
          have hpy := fun n os => rplace_gr y hyw (grow (wr.drewN n) os)
          generalize hyp : y.pl = py at *
          have HYP := Lib.hid hyp
          have HY := Lib.hid hy
          clear hyp hy
          obtain ⟨iy, sy, ay, my, ly, ⟨ty1, ny1, by1⟩, ⟨ty2, ny2, by2⟩, ⟨ty3, ny3, by3⟩⟩ := y
          unfold E.agg at hpy
          dsimp only at hpy
          have y0 : ∀ n os, (grow (wr.drewN n) os).cell? ⟨g, m * 14, none⟩ = some (.int .u16 iy) := hyc 0 _ rfl
          have y1 : ∀ n os, (grow (wr.drewN n) os).cell? ⟨g, m * 14 + 1, none⟩ = some (.int .u8 sy) := hyc 1 _ rfl
          have y2 : ∀ n os, (grow (wr.drewN n) os).cell? ⟨g, m * 14 + 2, none⟩ = some (.int .i64 ay) := hyc 2 _ rfl
          have y3 : ∀ n os, (grow (wr.drewN n) os).cell? ⟨g, m * 14 + 3, none⟩ = some (.bool my) := hyc 3 _ rfl
          have y4 : ∀ n os, (grow (wr.drewN n) os).cell? ⟨g, m * 14 + 4, none⟩ = some (.bool ly) := hyc 4 _ rfl
          have y5 : ∀ n os, (grow (wr.drewN n) os).cell? ⟨g, m * 14 + 5, none⟩ = some (.int .i64 ty1) := hyc 5 _ rfl
          have y6 : ∀ n os, (grow (wr.drewN n) os).cell? ⟨g, m * 14 + 6, none⟩ = some (.int .u64 ny1) := hyc 6 _ rfl
          have y7 : ∀ n os, (grow (wr.drewN n) os).cell? ⟨g, m * 14 + 7, none⟩ = some (.string by1) := hyc 7 _ rfl
          have y8 : ∀ n os, (grow (wr.drewN n) os).cell? ⟨g, m * 14 + 8, none⟩ = some (.int .i64 ty2) := hyc 8 _ rfl
          have y9 : ∀ n os, (grow (wr.drewN n) os).cell? ⟨g, m * 14 + 9, none⟩ = some (.int .u64 ny2) := hyc 9 _ rfl
          have y10 : ∀ n os, (grow (wr.drewN n) os).cell? ⟨g, m * 14 + 10, none⟩ = some (.string by2) := hyc 10 _ rfl
          have y11 : ∀ n os, (grow (wr.drewN n) os).cell? ⟨g, m * 14 + 11, none⟩ = some (.int .i64 ty3) := hyc 11 _ rfl
          have y12 : ∀ n os, (grow (wr.drewN n) os).cell? ⟨g, m * 14 + 12, none⟩ = some (.int .u64 ny3) := hyc 12 _ rfl
          have y13 : ∀ n os, (grow (wr.drewN n) os).cell? ⟨g, m * 14 + 13, none⟩ = some (.string by3) := hyc 13 _ rfl
          have k1 : (0 : Int) ≤ (m : Int) := by omega
          have k2 : (m : Int) < (dl.length : Int) := by omega
          clear hyc
          go_wp2_with fail
          refine wp_region_quiet_grown (by assumption) (by kernel_rfl) ?_
          iterate 15 (quiet_step (fail))
          quiet_step (refine Calls.grown_of (hpy _ _))
          quiet_step (fail)
          quiet_step (refine Calls.grown_of (hpx _ _))
          rcases Classical.em (py < px) with hlp | hlp
          · repeat (quiet_step (fail))
            refine wpQuiet_nil ?_
            intro _ hw'
            obtain ⟨⟨nq, osq⟩, hw''⟩ := hw'
            subst hw''
            go_wp2_with fail
            go_roundw
            case rel =>
              refine ⟨m + 1, by omega, by go_num, hFm.trans (Gr.fr ⟨nq, osq, rfl⟩), Lib.hid fun j z hj hzz => ?_⟩
              by_cases hjm : j = m
              · subst hjm
                have h1 := HY.out
                rw [h1] at hzz
                cases hzz
                have h2 := HYP.out
                rw [h2]
                exact hlp
              · exact hz.out j z (by omega) hzz
            case measure =>
              show dl.length - ((m : Int) + 1).toNat < dl.length - ((m : Int)).toNat
              omega
          · repeat (quiet_step (fail))
            refine wpQuiet_nil ?_
            intro _ hw'
            obtain ⟨⟨nq, osq⟩, hw''⟩ := hw'
            subst hw''
            go_wp2_with fail
            obtain ⟨W5, hW5⟩ : ∃ W5, W5 = grow (wr.drewN nq) osq := ⟨_, rfl⟩
            have hF5 : Fr W3 W5 := by rw [hW5]; exact hFm.trans (Gr.fr ⟨nq, osq, rfl⟩)
            rw [← hW5]
            clear hW5
            have HST : Hid (∀ z, dl[m]? = some z → ¬ z.pl < x.pl) := Lib.hid fun z hzz h => by
              have h1 := HY.out
              rw [h1] at hzz
              cases hzz
              have h2 := HYP.out
              have h3 := HXP.out
              omega
            have q1 : m ≤ cap := by omega
            have q2 : (m : Int) ≤ (cap : Int) := by omega
            have q3 : ¬ cap = m := by omega
            have q4 : (m : Int) ≤ (dl.length : Int) := by omega
            clear cD hpx hpy x0 y0 x1 y1 x2 y2 x3 y3 x4 y4 x5 y5 x6 y6 x7 y7 x8 y8 x9 y9 x10 y10 x11 y11 x12 y12 x13 y13
            refine start_ (n := 12) (S := fun w' => w'.cell? ⟨D, 0, none⟩ = some (.slice (some ⟨g, 0, none⟩) dl.length cap) ∧ w'.cell? ⟨X, 0, none⟩ = some (.int .u16 ix) ∧ w'.cell? ⟨X, 1, none⟩ = some (.int .u8 sub) ∧ w'.cell? ⟨X, 2, none⟩ = some (.int .i64 acc) ∧ w'.cell? ⟨X, 3, none⟩ = some (.bool mp) ∧ w'.cell? ⟨X, 4, none⟩ = some (.bool lim) ∧ w'.cell? ⟨X, 5, none⟩ = some (.int .i64 t1) ∧ w'.cell? ⟨X, 6, none⟩ = some (.int .u64 n1) ∧ w'.cell? ⟨X, 7, none⟩ = some (.string b1) ∧ w'.cell? ⟨X, 8, none⟩ = some (.int .i64 t2) ∧ w'.cell? ⟨X, 9, none⟩ = some (.int .u64 n2) ∧ w'.cell? ⟨X, 10, none⟩ = some (.string b2) ∧ w'.cell? ⟨X, 11, none⟩ = some (.int .i64 p1) ∧ w'.cell? ⟨X, 12, none⟩ = some (.int .u64 p2) ∧ w'.cell? ⟨X, 13, none⟩ = some (.string p3)) (ds := []) #[false, false, false, false, false, false, false, false, false, false, false, false] (by kernel_rfl) rfl rfl ⟨(cell0 (hF5.drew.at_ HD3.out)), (hF5.drew.cell m0), (hF5.drew.cell m1), (hF5.drew.cell m2), (hF5.drew.cell m3), (hF5.drew.cell m4), (hF5.drew.cell m5), (hF5.drew.cell m6), (hF5.drew.cell m7), (hF5.drew.cell m8), (hF5.drew.cell m9), (hF5.drew.cell m10), (hF5.drew.cell m11), (hF5.drew.cell m12), (hF5.drew.cell m13)⟩ (fun hHeld => ?_)
            refine with_tabW Rnew12.tab Rnew12.bits (fun HT_ HW_ => ?_)
            generalize hW6 : W5.drew = W6 at hHeld ⊢
            have hF6 : Fr W3 W6 := by rw [← hW6]; exact hF5.drew
            have HS6 := Lib.hid hHeld
            clear hW6
            have hz6 := hF6.size
            have hRm : Rd W6 14 (.slice (some ⟨g, 0, none⟩) m cap) m ((dl.map E.cells).flatten.take (m * 14)) := (Rd.take hR3.out hm).fr hF6
            have hones : ∀ x ∈ ((dl.map E.cells).flatten.take (m * 14)), x.oneCell' = true := fun x hx => ecs_one dl x (List.mem_of_mem_take hx)
            obtain ⟨i0, hi0, hiz0, hiz1, hiz2⟩ := info_parts infoEntry
            refine pure_ (i := 1) (N := some 54) (v := ?_) (a' := ?_) #[false, true, false, false, false, false, false, false, false, false, false, false] rfl rfl (any_of HT_.out (by kernel_rfl)) (fun _ _ _ h => h) (Or.inl ⟨by rfl, ?_⟩) ?_ ?_
            rotate_left
            · intro w'
              go_simp
              with_reducible rfl
            rotate_left
            · simp only [Act.put, List.setIfInBounds_toArray, List.set_cons_zero, List.set_cons_succ, i64_w, i32_w]
              rfl
            refine pure_ (i := 2) (N := some 55) (v := ?_) (a' := ?_) #[false, true, true, false, false, false, false, false, false, false, false, false] rfl rfl (any_of HT_.out (by kernel_rfl)) (fun _ _ _ h => h) (Or.inl ⟨by rfl, ?_⟩) ?_ ?_
            rotate_left
            · intro w'
              go_simp
              with_reducible rfl
            rotate_left
            · simp only [Act.put, List.setIfInBounds_toArray, List.set_cons_zero, List.set_cons_succ, i64_w, i32_w]
              rfl
            refine pure_ (i := 3) (N := some 56) (v := ?_) (a' := ?_) #[false, true, true, true, false, false, false, false, false, false, false, false] rfl rfl (any_of HT_.out (by kernel_rfl)) (fun _ _ _ h => h) (Or.inl ⟨by rfl, ?_⟩) ?_ ?_
            rotate_left
            · intro w'
              go_simp
              with_reducible rfl
            rotate_left
            · simp only [Act.put, List.setIfInBounds_toArray, List.set_cons_zero, List.set_cons_succ, i64_w, i32_w]
              rfl
            refine pure_ (i := 5) (N := some 58) (v := ?_) (a' := ?_) #[false, true, true, true, false, true, false, false, false, false, false, false] rfl rfl (any_of HT_.out (by kernel_rfl)) (fun _ _ _ h => h) (Or.inl ⟨by rfl, ?_⟩) ?_ ?_
            rotate_left
            · intro w'
              go_simp
              with_reducible rfl
            rotate_left
            · simp only [Act.put, List.setIfInBounds_toArray, List.set_cons_zero, List.set_cons_succ, i64_w, i32_w]
              rfl
            refine take_ (i := 4) (N := some 57) (v := ?_) (a' := ?_) #[false, true, true, true, true, true, false, false, false, false, false, false] rfl rfl (take_ofW HT_.out HW_.out (by kernel_rfl)) (fun _ _ _ h => h) (Or.inl ⟨by rfl, ?_⟩) hHeld ?_ ?_
            rotate_left
            · rintro w' ⟨s0, s1, s2, s3, s4, s5, s6, s7, s8, s9, s10, s11, s12, s13, s14⟩
              go_simp
              with_reducible rfl
            rotate_left
            · simp only [Act.put, List.setIfInBounds_toArray, List.set_cons_zero, List.set_cons_succ, i64_w, i32_w]
              rfl
            refine pure_ (i := 6) (N := some 59) (v := ?_) (a' := ?_) #[false, true, true, true, true, true, true, false, false, false, false, false] rfl rfl (any_of HT_.out (by kernel_rfl)) (fun _ _ _ h => h) (Or.inl ⟨by rfl, ?_⟩) ?_ ?_
            rotate_left
            · intro w'
              go_simp
              with_reducible rfl
            rotate_left
            · simp only [Act.put, List.setIfInBounds_toArray, List.set_cons_zero, List.set_cons_succ, i64_w, i32_w]
              rfl
            refine take_ (i := 8) (N := some 61) (v := ?_) (a' := ?_) #[false, true, true, true, true, true, true, false, true, false, false, false] rfl rfl (take_ofW HT_.out HW_.out (by kernel_rfl)) (fun _ _ _ h => h) (Or.inl ⟨by rfl, ?_⟩) hHeld ?_ ?_
            rotate_left
            · rintro w' ⟨s0, s1, s2, s3, s4, s5, s6, s7, s8, s9, s10, s11, s12, s13, s14⟩
              go_simp
              with_reducible rfl
            rotate_left
            · simp only [Act.put, List.setIfInBounds_toArray, List.set_cons_zero, List.set_cons_succ, i64_w, i32_w]
              rfl
            refine join_ (σ := Value × Value × Value) 2 #[true, true, true, true, true, true, true, true, true, true, false, false] (fun s => [(53, s.1), (60, s.2.1), (62, s.2.2)]) (fun s w' => Fr W6 w' ∧ w'.ownsRow W6.heap.size 46 14 s.2.1 (0 + m) ([] ++ ((dl.map E.cells).flatten.take (m * 14))) ∧ Rd w' 14 s.2.2 1 [.int .u16 ix, .int .u8 sub, .int .i64 acc, .bool mp, .bool lim, .int .i64 t1, .int .u64 n1, .string b1, .int .i64 t2, .int .u64 n2, .string b2, .int .i64 p1, .int .u64 p2, .string p3]) ?_ ?_
            rotate_left
            · intro hCont
              refine two_ (i := 0) (j := 9) (Ni := some 53) (Nj := some 62) #[true, true, true, true, true, true, true, false, true, false, false, false] #[false, true, true, true, true, true, true, false, true, true, false, false] rfl rfl rfl rfl (two_of HT_.out (by kernel_rfl)) (by decide) (by decide) (fun K hK => ?_) (fun K hK => ?_)
              · skip
                refine value_ (w1 := W6.alloc (.cells #[] 46)) (v := .slice (some ⟨W6.heap.size, 0, none⟩) 0 0) (by rfl) rfl ?_ ?_
                · go_simp
                obtain ⟨W6_0, hNW6_0⟩ : ∃ q, q = W6.alloc (.cells #[] 46) := ⟨_, rfl⟩
                have hGW6_0 : Fr W6 W6_0 := by rw [hNW6_0]; exact Fr.alloc (Fr.refl W6) _
                have hAW6_0 : Fr W6 W6_0 := by rw [hNW6_0]; exact Fr.alloc (Fr.refl _) _
                have hsW6_0 : W6_0.heap.size = W6.heap.size + 1 := by rw [hNW6_0]; simp
                have hOW6_0 : W6_0.ownsRow W6.heap.size 46 14 (.slice (some ⟨W6.heap.size, 0, none⟩) 0 0) 0 [] := by rw [hNW6_0]; exact World.ownsRow_made _ #[] 0 (by omega) (by simp [maxLen]) (by simp)
                rw [← hNW6_0]
                clear hNW6_0
                refine hK.out _ _ ⟨(hGW6_0.cell HS6.out.1), (hGW6_0.cell HS6.out.2.1), (hGW6_0.cell HS6.out.2.2.1), (hGW6_0.cell HS6.out.2.2.2.1), (hGW6_0.cell HS6.out.2.2.2.2.1), (hGW6_0.cell HS6.out.2.2.2.2.2.1), (hGW6_0.cell HS6.out.2.2.2.2.2.2.1), (hGW6_0.cell HS6.out.2.2.2.2.2.2.2.1), (hGW6_0.cell HS6.out.2.2.2.2.2.2.2.2.1), (hGW6_0.cell HS6.out.2.2.2.2.2.2.2.2.2.1), (hGW6_0.cell HS6.out.2.2.2.2.2.2.2.2.2.2.1), (hGW6_0.cell HS6.out.2.2.2.2.2.2.2.2.2.2.2.1), (hGW6_0.cell HS6.out.2.2.2.2.2.2.2.2.2.2.2.2.1), (hGW6_0.cell HS6.out.2.2.2.2.2.2.2.2.2.2.2.2.2.1), (hGW6_0.cell HS6.out.2.2.2.2.2.2.2.2.2.2.2.2.2.2)⟩ (fun hHeld => ?_)
                clear hK K
                refine norm_ (a' := ?_) ?_ ?_
                rotate_left
                · show Act.put _ (some 53) _ = _
                  simp only [Act.put, List.setIfInBounds_toArray, List.set_cons_zero, List.set_cons_succ, i64_w, i32_w]
                  rfl
                refine two_ (i := 7) (j := 9) (Ni := some 60) (Nj := some 62) #[true, true, true, true, true, true, true, true, true, false, false, false] #[true, true, true, true, true, true, true, false, true, true, false, false] rfl rfl rfl rfl (two_of HT_.out (by kernel_rfl)) (by decide) (by decide) (fun K hK => ?_) (fun K hK => ?_)
                · skip
                  refine step_append_rd _ (by rfl) (.tmp 53) (.tmp 59) _ (by rfl) W6.heap.size 46 i0 _ 14 120 Tryz.underlying22 hi0 hiz0 hiz1 hiz2 rfl (by omega) (.slice (some ⟨W6.heap.size, 0, none⟩) 0 0) 0 [] (by rfl) hOW6_0 (.slice (some ⟨g, 0, none⟩) m cap) m ((dl.map E.cells).flatten.take (m * 14)) (by rfl) (Rd.fr hRm hGW6_0) hones (by simp only [maxLen]; omega) (by omega) (by omega) ?_
                  intro v60 W6_0_7 hOW6_0_7 hgW6_0_7
                  have hGW6_0_7 : Fr W6 W6_0_7 := Fr.grown hGW6_0 hgW6_0_7 (fun r hr => by simp [Value.ownBlock] at hr; omega)
                  have hzW6_0_7 := hgW6_0_7.size
                  refine hK.out _ _ ⟨(hGW6_0_7.cell HS6.out.1), (hGW6_0_7.cell HS6.out.2.1), (hGW6_0_7.cell HS6.out.2.2.1), (hGW6_0_7.cell HS6.out.2.2.2.1), (hGW6_0_7.cell HS6.out.2.2.2.2.1), (hGW6_0_7.cell HS6.out.2.2.2.2.2.1), (hGW6_0_7.cell HS6.out.2.2.2.2.2.2.1), (hGW6_0_7.cell HS6.out.2.2.2.2.2.2.2.1), (hGW6_0_7.cell HS6.out.2.2.2.2.2.2.2.2.1), (hGW6_0_7.cell HS6.out.2.2.2.2.2.2.2.2.2.1), (hGW6_0_7.cell HS6.out.2.2.2.2.2.2.2.2.2.2.1), (hGW6_0_7.cell HS6.out.2.2.2.2.2.2.2.2.2.2.2.1), (hGW6_0_7.cell HS6.out.2.2.2.2.2.2.2.2.2.2.2.2.1), (hGW6_0_7.cell HS6.out.2.2.2.2.2.2.2.2.2.2.2.2.2.1), (hGW6_0_7.cell HS6.out.2.2.2.2.2.2.2.2.2.2.2.2.2.2)⟩ (fun hHeld => ?_)
                  clear hK K
                  refine norm_ (a' := ?_) ?_ ?_
                  rotate_left
                  · show Act.put _ (some 60) _ = _
                    simp only [Act.put, List.setIfInBounds_toArray, List.set_cons_zero, List.set_cons_succ, i64_w, i32_w]
                    rfl
                  refine one_ (i := 9) (N := some 62) #[true, true, true, true, true, true, true, true, true, true, false, false] rfl rfl (one_of HT_.out (by kernel_rfl)) (by decide) (fun K hK => ?_)
                  refine value_ (w1 := W6_0_7.alloc (.cells #[.int .u16 ix, .int .u8 sub, .int .i64 acc, .bool mp, .bool lim, .int .i64 t1, .int .u64 n1, .string b1, .int .i64 t2, .int .u64 n2, .string b2, .int .i64 p1, .int .u64 p2, .string p3] 46)) (v := .slice (some ⟨W6_0_7.heap.size, 0, none⟩) 1 1) (by rfl) rfl ?_ ?_
                  · go_simp
                  obtain ⟨W6_0_7_9, hNW6_0_7_9⟩ : ∃ q, q = W6_0_7.alloc (.cells #[.int .u16 ix, .int .u8 sub, .int .i64 acc, .bool mp, .bool lim, .int .i64 t1, .int .u64 n1, .string b1, .int .i64 t2, .int .u64 n2, .string b2, .int .i64 p1, .int .u64 p2, .string p3] 46) := ⟨_, rfl⟩
                  have hGW6_0_7_9 : Fr W6 W6_0_7_9 := by rw [hNW6_0_7_9]; exact Fr.alloc (hGW6_0_7) _
                  have hAW6_0_7_9 : Fr W6_0_7 W6_0_7_9 := by rw [hNW6_0_7_9]; exact Fr.alloc (Fr.refl _) _
                  have hsW6_0_7_9 : W6_0_7_9.heap.size = W6_0_7.heap.size + 1 := by rw [hNW6_0_7_9]; simp
                  have hRW6_0_7_9 : Rd W6_0_7_9 14 (.slice (some ⟨W6_0_7.heap.size, 0, none⟩) 1 1) 1 [.int .u16 ix, .int .u8 sub, .int .i64 acc, .bool mp, .bool lim, .int .i64 t1, .int .u64 n1, .string b1, .int .i64 t2, .int .u64 n2, .string b2, .int .i64 p1, .int .u64 p2, .string p3] := by rw [hNW6_0_7_9]; exact Rd.of_block (heap_alloc_new _ _) (Nat.le_refl _) (by omega) (by simp) (List.prefix_refl _)
                  have hQW6_0_7_9 := ownsRow_fr hOW6_0_7 hAW6_0_7_9
                  rw [← hNW6_0_7_9]
                  clear hNW6_0_7_9
                  refine hK.out _ _ ⟨(hGW6_0_7_9.cell HS6.out.1), (hGW6_0_7_9.cell HS6.out.2.1), (hGW6_0_7_9.cell HS6.out.2.2.1), (hGW6_0_7_9.cell HS6.out.2.2.2.1), (hGW6_0_7_9.cell HS6.out.2.2.2.2.1), (hGW6_0_7_9.cell HS6.out.2.2.2.2.2.1), (hGW6_0_7_9.cell HS6.out.2.2.2.2.2.2.1), (hGW6_0_7_9.cell HS6.out.2.2.2.2.2.2.2.1), (hGW6_0_7_9.cell HS6.out.2.2.2.2.2.2.2.2.1), (hGW6_0_7_9.cell HS6.out.2.2.2.2.2.2.2.2.2.1), (hGW6_0_7_9.cell HS6.out.2.2.2.2.2.2.2.2.2.2.1), (hGW6_0_7_9.cell HS6.out.2.2.2.2.2.2.2.2.2.2.2.1), (hGW6_0_7_9.cell HS6.out.2.2.2.2.2.2.2.2.2.2.2.2.1), (hGW6_0_7_9.cell HS6.out.2.2.2.2.2.2.2.2.2.2.2.2.2.1), (hGW6_0_7_9.cell HS6.out.2.2.2.2.2.2.2.2.2.2.2.2.2.2)⟩ (fun hHeld => ?_)
                  clear hK K
                  refine norm_ (a' := ?_) ?_ ?_
                  rotate_left
                  · show Act.put _ (some 62) _ = _
                    simp only [Act.put, List.setIfInBounds_toArray, List.set_cons_zero, List.set_cons_succ, i64_w, i32_w]
                    rfl
                  exact norm_ (by simp only [putAll, Act.put, List.setIfInBounds_toArray, List.set_cons_zero, List.set_cons_succ]) (hCont (.slice (some ⟨W6.heap.size, 0, none⟩) 0 0, v60, .slice (some ⟨W6_0_7.heap.size, 0, none⟩) 1 1) _ ⟨hGW6_0_7_9, hQW6_0_7_9, hRW6_0_7_9⟩)
                · skip
                  refine value_ (w1 := W6_0.alloc (.cells #[.int .u16 ix, .int .u8 sub, .int .i64 acc, .bool mp, .bool lim, .int .i64 t1, .int .u64 n1, .string b1, .int .i64 t2, .int .u64 n2, .string b2, .int .i64 p1, .int .u64 p2, .string p3] 46)) (v := .slice (some ⟨W6_0.heap.size, 0, none⟩) 1 1) (by rfl) rfl ?_ ?_
                  · go_simp
                  obtain ⟨W6_0_9, hNW6_0_9⟩ : ∃ q, q = W6_0.alloc (.cells #[.int .u16 ix, .int .u8 sub, .int .i64 acc, .bool mp, .bool lim, .int .i64 t1, .int .u64 n1, .string b1, .int .i64 t2, .int .u64 n2, .string b2, .int .i64 p1, .int .u64 p2, .string p3] 46) := ⟨_, rfl⟩
                  have hGW6_0_9 : Fr W6 W6_0_9 := by rw [hNW6_0_9]; exact Fr.alloc (hGW6_0) _
                  have hAW6_0_9 : Fr W6_0 W6_0_9 := by rw [hNW6_0_9]; exact Fr.alloc (Fr.refl _) _
                  have hsW6_0_9 : W6_0_9.heap.size = W6_0.heap.size + 1 := by rw [hNW6_0_9]; simp
                  have hRW6_0_9 : Rd W6_0_9 14 (.slice (some ⟨W6_0.heap.size, 0, none⟩) 1 1) 1 [.int .u16 ix, .int .u8 sub, .int .i64 acc, .bool mp, .bool lim, .int .i64 t1, .int .u64 n1, .string b1, .int .i64 t2, .int .u64 n2, .string b2, .int .i64 p1, .int .u64 p2, .string p3] := by rw [hNW6_0_9]; exact Rd.of_block (heap_alloc_new _ _) (Nat.le_refl _) (by omega) (by simp) (List.prefix_refl _)
                  rw [← hNW6_0_9]
                  clear hNW6_0_9
                  refine hK.out _ _ ⟨(hGW6_0_9.cell HS6.out.1), (hGW6_0_9.cell HS6.out.2.1), (hGW6_0_9.cell HS6.out.2.2.1), (hGW6_0_9.cell HS6.out.2.2.2.1), (hGW6_0_9.cell HS6.out.2.2.2.2.1), (hGW6_0_9.cell HS6.out.2.2.2.2.2.1), (hGW6_0_9.cell HS6.out.2.2.2.2.2.2.1), (hGW6_0_9.cell HS6.out.2.2.2.2.2.2.2.1), (hGW6_0_9.cell HS6.out.2.2.2.2.2.2.2.2.1), (hGW6_0_9.cell HS6.out.2.2.2.2.2.2.2.2.2.1), (hGW6_0_9.cell HS6.out.2.2.2.2.2.2.2.2.2.2.1), (hGW6_0_9.cell HS6.out.2.2.2.2.2.2.2.2.2.2.2.1), (hGW6_0_9.cell HS6.out.2.2.2.2.2.2.2.2.2.2.2.2.1), (hGW6_0_9.cell HS6.out.2.2.2.2.2.2.2.2.2.2.2.2.2.1), (hGW6_0_9.cell HS6.out.2.2.2.2.2.2.2.2.2.2.2.2.2.2)⟩ (fun hHeld => ?_)
                  clear hK K
                  refine norm_ (a' := ?_) ?_ ?_
                  rotate_left
                  · show Act.put _ (some 62) _ = _
                    simp only [Act.put, List.setIfInBounds_toArray, List.set_cons_zero, List.set_cons_succ, i64_w, i32_w]
                    rfl
                  refine one_ (i := 7) (N := some 60) #[true, true, true, true, true, true, true, true, true, true, false, false] rfl rfl (one_of HT_.out (by kernel_rfl)) (by decide) (fun K hK => ?_)
                  refine step_append_rd _ (by rfl) (.tmp 53) (.tmp 59) _ (by rfl) W6.heap.size 46 i0 _ 14 120 Tryz.underlying22 hi0 hiz0 hiz1 hiz2 rfl (by omega) (.slice (some ⟨W6.heap.size, 0, none⟩) 0 0) 0 [] (by rfl) (ownsRow_fr hOW6_0 hAW6_0_9) (.slice (some ⟨g, 0, none⟩) m cap) m ((dl.map E.cells).flatten.take (m * 14)) (by rfl) (Rd.fr hRm hGW6_0_9) hones (by simp only [maxLen]; omega) (by omega) (by omega) ?_
                  intro v60 W6_0_9_7 hOW6_0_9_7 hgW6_0_9_7
                  have hGW6_0_9_7 : Fr W6 W6_0_9_7 := Fr.grown hGW6_0_9 hgW6_0_9_7 (fun r hr => by simp [Value.ownBlock] at hr; omega)
                  have hzW6_0_9_7 := hgW6_0_9_7.size
                  have hRW6_0_9_7 := Rd.grown hRW6_0_9 hgW6_0_9_7 (fun g hg hh => by simp [Value.ownBlock] at hg hh; omega)
                  refine hK.out _ _ ⟨(hGW6_0_9_7.cell HS6.out.1), (hGW6_0_9_7.cell HS6.out.2.1), (hGW6_0_9_7.cell HS6.out.2.2.1), (hGW6_0_9_7.cell HS6.out.2.2.2.1), (hGW6_0_9_7.cell HS6.out.2.2.2.2.1), (hGW6_0_9_7.cell HS6.out.2.2.2.2.2.1), (hGW6_0_9_7.cell HS6.out.2.2.2.2.2.2.1), (hGW6_0_9_7.cell HS6.out.2.2.2.2.2.2.2.1), (hGW6_0_9_7.cell HS6.out.2.2.2.2.2.2.2.2.1), (hGW6_0_9_7.cell HS6.out.2.2.2.2.2.2.2.2.2.1), (hGW6_0_9_7.cell HS6.out.2.2.2.2.2.2.2.2.2.2.1), (hGW6_0_9_7.cell HS6.out.2.2.2.2.2.2.2.2.2.2.2.1), (hGW6_0_9_7.cell HS6.out.2.2.2.2.2.2.2.2.2.2.2.2.1), (hGW6_0_9_7.cell HS6.out.2.2.2.2.2.2.2.2.2.2.2.2.2.1), (hGW6_0_9_7.cell HS6.out.2.2.2.2.2.2.2.2.2.2.2.2.2.2)⟩ (fun hHeld => ?_)
                  clear hK K
                  refine norm_ (a' := ?_) ?_ ?_
                  rotate_left
                  · show Act.put _ (some 60) _ = _
                    simp only [Act.put, List.setIfInBounds_toArray, List.set_cons_zero, List.set_cons_succ, i64_w, i32_w]
                    rfl
                  exact norm_ (by simp only [putAll, Act.put, List.setIfInBounds_toArray, List.set_cons_zero, List.set_cons_succ]) (hCont (.slice (some ⟨W6.heap.size, 0, none⟩) 0 0, v60, .slice (some ⟨W6_0.heap.size, 0, none⟩) 1 1) _ ⟨hGW6_0_9_7, hOW6_0_9_7, hRW6_0_9_7⟩)
              · skip
                refine value_ (w1 := W6.alloc (.cells #[.int .u16 ix, .int .u8 sub, .int .i64 acc, .bool mp, .bool lim, .int .i64 t1, .int .u64 n1, .string b1, .int .i64 t2, .int .u64 n2, .string b2, .int .i64 p1, .int .u64 p2, .string p3] 46)) (v := .slice (some ⟨W6.heap.size, 0, none⟩) 1 1) (by rfl) rfl ?_ ?_
                · go_simp
                obtain ⟨W6_9, hNW6_9⟩ : ∃ q, q = W6.alloc (.cells #[.int .u16 ix, .int .u8 sub, .int .i64 acc, .bool mp, .bool lim, .int .i64 t1, .int .u64 n1, .string b1, .int .i64 t2, .int .u64 n2, .string b2, .int .i64 p1, .int .u64 p2, .string p3] 46) := ⟨_, rfl⟩
                have hGW6_9 : Fr W6 W6_9 := by rw [hNW6_9]; exact Fr.alloc (Fr.refl W6) _
                have hAW6_9 : Fr W6 W6_9 := by rw [hNW6_9]; exact Fr.alloc (Fr.refl _) _
                have hsW6_9 : W6_9.heap.size = W6.heap.size + 1 := by rw [hNW6_9]; simp
                have hRW6_9 : Rd W6_9 14 (.slice (some ⟨W6.heap.size, 0, none⟩) 1 1) 1 [.int .u16 ix, .int .u8 sub, .int .i64 acc, .bool mp, .bool lim, .int .i64 t1, .int .u64 n1, .string b1, .int .i64 t2, .int .u64 n2, .string b2, .int .i64 p1, .int .u64 p2, .string p3] := by rw [hNW6_9]; exact Rd.of_block (heap_alloc_new _ _) (Nat.le_refl _) (by omega) (by simp) (List.prefix_refl _)
                rw [← hNW6_9]
                clear hNW6_9
                refine hK.out _ _ ⟨(hGW6_9.cell HS6.out.1), (hGW6_9.cell HS6.out.2.1), (hGW6_9.cell HS6.out.2.2.1), (hGW6_9.cell HS6.out.2.2.2.1), (hGW6_9.cell HS6.out.2.2.2.2.1), (hGW6_9.cell HS6.out.2.2.2.2.2.1), (hGW6_9.cell HS6.out.2.2.2.2.2.2.1), (hGW6_9.cell HS6.out.2.2.2.2.2.2.2.1), (hGW6_9.cell HS6.out.2.2.2.2.2.2.2.2.1), (hGW6_9.cell HS6.out.2.2.2.2.2.2.2.2.2.1), (hGW6_9.cell HS6.out.2.2.2.2.2.2.2.2.2.2.1), (hGW6_9.cell HS6.out.2.2.2.2.2.2.2.2.2.2.2.1), (hGW6_9.cell HS6.out.2.2.2.2.2.2.2.2.2.2.2.2.1), (hGW6_9.cell HS6.out.2.2.2.2.2.2.2.2.2.2.2.2.2.1), (hGW6_9.cell HS6.out.2.2.2.2.2.2.2.2.2.2.2.2.2.2)⟩ (fun hHeld => ?_)
                clear hK K
                refine norm_ (a' := ?_) ?_ ?_
                rotate_left
                · show Act.put _ (some 62) _ = _
                  simp only [Act.put, List.setIfInBounds_toArray, List.set_cons_zero, List.set_cons_succ, i64_w, i32_w]
                  rfl
                refine one_ (i := 0) (N := some 53) #[true, true, true, true, true, true, true, false, true, true, false, false] rfl rfl (one_of HT_.out (by kernel_rfl)) (by decide) (fun K hK => ?_)
                refine value_ (w1 := W6_9.alloc (.cells #[] 46)) (v := .slice (some ⟨W6_9.heap.size, 0, none⟩) 0 0) (by rfl) rfl ?_ ?_
                · go_simp
                obtain ⟨W6_9_0, hNW6_9_0⟩ : ∃ q, q = W6_9.alloc (.cells #[] 46) := ⟨_, rfl⟩
                have hGW6_9_0 : Fr W6 W6_9_0 := by rw [hNW6_9_0]; exact Fr.alloc (hGW6_9) _
                have hAW6_9_0 : Fr W6_9 W6_9_0 := by rw [hNW6_9_0]; exact Fr.alloc (Fr.refl _) _
                have hsW6_9_0 : W6_9_0.heap.size = W6_9.heap.size + 1 := by rw [hNW6_9_0]; simp
                have hOW6_9_0 : W6_9_0.ownsRow W6.heap.size 46 14 (.slice (some ⟨W6_9.heap.size, 0, none⟩) 0 0) 0 [] := by rw [hNW6_9_0]; exact World.ownsRow_made _ #[] 0 (by omega) (by simp [maxLen]) (by simp)
                rw [← hNW6_9_0]
                clear hNW6_9_0
                refine hK.out _ _ ⟨(hGW6_9_0.cell HS6.out.1), (hGW6_9_0.cell HS6.out.2.1), (hGW6_9_0.cell HS6.out.2.2.1), (hGW6_9_0.cell HS6.out.2.2.2.1), (hGW6_9_0.cell HS6.out.2.2.2.2.1), (hGW6_9_0.cell HS6.out.2.2.2.2.2.1), (hGW6_9_0.cell HS6.out.2.2.2.2.2.2.1), (hGW6_9_0.cell HS6.out.2.2.2.2.2.2.2.1), (hGW6_9_0.cell HS6.out.2.2.2.2.2.2.2.2.1), (hGW6_9_0.cell HS6.out.2.2.2.2.2.2.2.2.2.1), (hGW6_9_0.cell HS6.out.2.2.2.2.2.2.2.2.2.2.1), (hGW6_9_0.cell HS6.out.2.2.2.2.2.2.2.2.2.2.2.1), (hGW6_9_0.cell HS6.out.2.2.2.2.2.2.2.2.2.2.2.2.1), (hGW6_9_0.cell HS6.out.2.2.2.2.2.2.2.2.2.2.2.2.2.1), (hGW6_9_0.cell HS6.out.2.2.2.2.2.2.2.2.2.2.2.2.2.2)⟩ (fun hHeld => ?_)
                clear hK K
                refine norm_ (a' := ?_) ?_ ?_
                rotate_left
                · show Act.put _ (some 53) _ = _
                  simp only [Act.put, List.setIfInBounds_toArray, List.set_cons_zero, List.set_cons_succ, i64_w, i32_w]
                  rfl
                refine one_ (i := 7) (N := some 60) #[true, true, true, true, true, true, true, true, true, true, false, false] rfl rfl (one_of HT_.out (by kernel_rfl)) (by decide) (fun K hK => ?_)
                refine step_append_rd _ (by rfl) (.tmp 53) (.tmp 59) _ (by rfl) W6.heap.size 46 i0 _ 14 120 Tryz.underlying22 hi0 hiz0 hiz1 hiz2 rfl (by omega) (.slice (some ⟨W6_9.heap.size, 0, none⟩) 0 0) 0 [] (by rfl) hOW6_9_0 (.slice (some ⟨g, 0, none⟩) m cap) m ((dl.map E.cells).flatten.take (m * 14)) (by rfl) (Rd.fr hRm hGW6_9_0) hones (by simp only [maxLen]; omega) (by omega) (by omega) ?_
                intro v60 W6_9_0_7 hOW6_9_0_7 hgW6_9_0_7
                have hGW6_9_0_7 : Fr W6 W6_9_0_7 := Fr.grown hGW6_9_0 hgW6_9_0_7 (fun r hr => by simp [Value.ownBlock] at hr; omega)
                have hzW6_9_0_7 := hgW6_9_0_7.size
                have hRW6_9_0_7 := Rd.grown (Rd.fr hRW6_9 hAW6_9_0) hgW6_9_0_7 (fun g hg hh => by simp [Value.ownBlock] at hg hh; omega)
                refine hK.out _ _ ⟨(hGW6_9_0_7.cell HS6.out.1), (hGW6_9_0_7.cell HS6.out.2.1), (hGW6_9_0_7.cell HS6.out.2.2.1), (hGW6_9_0_7.cell HS6.out.2.2.2.1), (hGW6_9_0_7.cell HS6.out.2.2.2.2.1), (hGW6_9_0_7.cell HS6.out.2.2.2.2.2.1), (hGW6_9_0_7.cell HS6.out.2.2.2.2.2.2.1), (hGW6_9_0_7.cell HS6.out.2.2.2.2.2.2.2.1), (hGW6_9_0_7.cell HS6.out.2.2.2.2.2.2.2.2.1), (hGW6_9_0_7.cell HS6.out.2.2.2.2.2.2.2.2.2.1), (hGW6_9_0_7.cell HS6.out.2.2.2.2.2.2.2.2.2.2.1), (hGW6_9_0_7.cell HS6.out.2.2.2.2.2.2.2.2.2.2.2.1), (hGW6_9_0_7.cell HS6.out.2.2.2.2.2.2.2.2.2.2.2.2.1), (hGW6_9_0_7.cell HS6.out.2.2.2.2.2.2.2.2.2.2.2.2.2.1), (hGW6_9_0_7.cell HS6.out.2.2.2.2.2.2.2.2.2.2.2.2.2.2)⟩ (fun hHeld => ?_)
                clear hK K
                refine norm_ (a' := ?_) ?_ ?_
                rotate_left
                · show Act.put _ (some 60) _ = _
                  simp only [Act.put, List.setIfInBounds_toArray, List.set_cons_zero, List.set_cons_succ, i64_w, i32_w]
                  rfl
                exact norm_ (by simp only [putAll, Act.put, List.setIfInBounds_toArray, List.set_cons_zero, List.set_cons_succ]) (hCont (.slice (some ⟨W6_9.heap.size, 0, none⟩) 0 0, v60, .slice (some ⟨W6.heap.size, 0, none⟩) 1 1) _ ⟨hGW6_9_0_7, hOW6_9_0_7, hRW6_9_0_7⟩)
            rintro ⟨u53, u60, u62⟩ W7 ⟨hF7, hO7, hR7⟩
            dsimp only at hO7 hR7
            have hHeld := (⟨hF7.cell HS6.out.1, hF7.cell HS6.out.2.1, hF7.cell HS6.out.2.2.1, hF7.cell HS6.out.2.2.2.1, hF7.cell HS6.out.2.2.2.2.1, hF7.cell HS6.out.2.2.2.2.2.1, hF7.cell HS6.out.2.2.2.2.2.2.1, hF7.cell HS6.out.2.2.2.2.2.2.2.1, hF7.cell HS6.out.2.2.2.2.2.2.2.2.1, hF7.cell HS6.out.2.2.2.2.2.2.2.2.2.1, hF7.cell HS6.out.2.2.2.2.2.2.2.2.2.2.1, hF7.cell HS6.out.2.2.2.2.2.2.2.2.2.2.2.1, hF7.cell HS6.out.2.2.2.2.2.2.2.2.2.2.2.2.1, hF7.cell HS6.out.2.2.2.2.2.2.2.2.2.2.2.2.2.1, hF7.cell HS6.out.2.2.2.2.2.2.2.2.2.2.2.2.2.2⟩ : W7.cell? ⟨D, 0, none⟩ = some (.slice (some ⟨g, 0, none⟩) dl.length cap) ∧ W7.cell? ⟨X, 0, none⟩ = some (.int .u16 ix) ∧ W7.cell? ⟨X, 1, none⟩ = some (.int .u8 sub) ∧ W7.cell? ⟨X, 2, none⟩ = some (.int .i64 acc) ∧ W7.cell? ⟨X, 3, none⟩ = some (.bool mp) ∧ W7.cell? ⟨X, 4, none⟩ = some (.bool lim) ∧ W7.cell? ⟨X, 5, none⟩ = some (.int .i64 t1) ∧ W7.cell? ⟨X, 6, none⟩ = some (.int .u64 n1) ∧ W7.cell? ⟨X, 7, none⟩ = some (.string b1) ∧ W7.cell? ⟨X, 8, none⟩ = some (.int .i64 t2) ∧ W7.cell? ⟨X, 9, none⟩ = some (.int .u64 n2) ∧ W7.cell? ⟨X, 10, none⟩ = some (.string b2) ∧ W7.cell? ⟨X, 11, none⟩ = some (.int .i64 p1) ∧ W7.cell? ⟨X, 12, none⟩ = some (.int .u64 p2) ∧ W7.cell? ⟨X, 13, none⟩ = some (.string p3))
            refine norm_ (a' := ?_) ?_ ?_
            rotate_left
            · simp only [putAll, Act.put, List.setIfInBounds_toArray, List.set_cons_zero, List.set_cons_succ]
              rfl
            refine one_ (i := 10) (N := some 63) #[true, true, true, true, true, true, true, true, true, true, true, false] rfl rfl (one_of HT_.out (by kernel_rfl)) (by decide) (fun K hK => ?_)
            refine step_append_rd _ (by rfl) (.tmp 60) (.tmp 62) _ (by rfl) W6.heap.size 46 i0 _ 14 120 Tryz.underlying22 hi0 hiz0 hiz1 hiz2 rfl (by omega) u60 (0 + m) ([] ++ ((dl.map E.cells).flatten.take (m * 14))) (by rfl) hO7 u62 1 [.int .u16 ix, .int .u8 sub, .int .i64 acc, .bool mp, .bool lim, .int .i64 t1, .int .u64 n1, .string b1, .int .i64 t2, .int .u64 n2, .string b2, .int .i64 p1, .int .u64 p2, .string p3] (by rfl) hR7 (by simp [Value.oneCell']) (by simp only [maxLen]; omega) (by omega) (by have := hF7.size; omega) ?_
            intro v63 W8 hO8 hg8
            have hF8 : Fr W6 W8 := Fr.grown hF7 hg8 (fun r hr => (hO7.lt r hr).1)
            refine hK.out _ _ ⟨(hF8.cell HS6.out.1), (hF8.cell HS6.out.2.1), (hF8.cell HS6.out.2.2.1), (hF8.cell HS6.out.2.2.2.1), (hF8.cell HS6.out.2.2.2.2.1), (hF8.cell HS6.out.2.2.2.2.2.1), (hF8.cell HS6.out.2.2.2.2.2.2.1), (hF8.cell HS6.out.2.2.2.2.2.2.2.1), (hF8.cell HS6.out.2.2.2.2.2.2.2.2.1), (hF8.cell HS6.out.2.2.2.2.2.2.2.2.2.1), (hF8.cell HS6.out.2.2.2.2.2.2.2.2.2.2.1), (hF8.cell HS6.out.2.2.2.2.2.2.2.2.2.2.2.1), (hF8.cell HS6.out.2.2.2.2.2.2.2.2.2.2.2.2.1), (hF8.cell HS6.out.2.2.2.2.2.2.2.2.2.2.2.2.2.1), (hF8.cell HS6.out.2.2.2.2.2.2.2.2.2.2.2.2.2.2)⟩ (fun hHeld => ?_)
            clear hK K
            refine norm_ (a' := ?_) ?_ ?_
            rotate_left
            · show Act.put _ (some 63) _ = _
              simp only [Act.put, List.setIfInBounds_toArray, List.set_cons_zero, List.set_cons_succ, i64_w, i32_w]
              rfl
            refine pure_ (i := 11) (N := some 9) (v := ?_) (a' := ?_) #[true, true, true, true, true, true, true, true, true, true, true, true] rfl rfl (any_of HT_.out (by kernel_rfl)) (fun _ _ _ h => h) (Or.inl ⟨by rfl, ?_⟩) ?_ ?_
            rotate_left
            · intro w'
              go_simp
              with_reducible rfl
            rotate_left
            · simp only [Act.put, List.setIfInBounds_toArray, List.set_cons_zero, List.set_cons_succ, i64_w, i32_w]
              rfl
            refine done_ (done_of HT_.out (by kernel_rfl)) ?_

            have hD8 := hF8.at_ (hF6.at_ HD3.out)
            have z8 := hF8.size
            have hne8 : some D ≠ v63.ownBlock := fun hh => by have := (hO8.lt D hh.symm).1; omega
            have e8 := cell0 hD8
            have f8 := froz2 hD8 0
            go_wp2_with (at_builtin; refine wpList_append_rd _ (by rfl) (.tmp 65) (.tmp 71) _ (by rfl) W6.heap.size 46 i0 _ 14 120 Tryz.underlying22 hi0 hiz0 hiz1 hiz2 rfl (by omega) v63 (0 + m + 1) ([] ++ ((dl.map E.cells).flatten.take (m * 14)) ++ [.int .u16 ix, .int .u8 sub, .int .i64 acc, .bool mp, .bool lim, .int .i64 t1, .int .u64 n1, .string b1, .int .i64 t2, .int .u64 n2, .string b2, .int .i64 p1, .int .u64 p2, .string p3]) (by rfl) hO8 (.slice (some ⟨g, m * 14, none⟩) (dl.length - m) (cap - m)) (dl.length - m) ((dl.map E.cells).flatten.drop (m * 14)) (by rfl) (Rd.fr (by have := Rd.drop hR3.out hm; rwa [Nat.zero_add] at this) (hF6.trans hF8)) (fun x hx => ecs_one dl x (List.mem_of_mem_drop hx)) (by simp only [maxLen]; omega) (by omega) (by omega) ?_; intro v72 W9 hO9 hg9; obtain ⟨g9, c9, hv9, _⟩ := World.ownsRow.form hO9 (by omega); subst hv9; have hF9 : Fr W6 W9 := Fr.grown hF8 hg9 (fun r hr => (hO8.lt r hr).1); have hD9 := hF9.at_ (hF6.at_ HD3.out); have e9 := cell0 hD9; have f9 := froz2 hD9 0)
            go_roundw
            case rel =>
              have hne9 := fun hh => (show False by have := (hO9.lt D hh).1; omega)
              have hcs0 : [] ++ ((dl.map E.cells).flatten.take (m * 14)) ++ [.int .u16 ix, .int .u8 sub, .int .i64 acc, .bool mp, .bool lim, .int .i64 t1, .int .u64 n1, .string b1, .int .i64 t2, .int .u64 n2, .string b2, .int .i64 p1, .int .u64 p2, .string p3] ++ (dl.map E.cells).flatten.drop (m * 14) = ((insE x dl).map E.cells).flatten := by
                rw [insE_at x dl m hm (fun j y hj hy => by have h1 := hz.out j y hj hy; have h2 := HXP.out; omega) (fun y hy h => by have := HST.out y hy; omega), List.map_append, List.flatten_append, List.map_cons, List.flatten_cons, flat_take E.cells 14 E.len dl m hm, flat_drop E.cells 14 E.len dl m hm, HXE.out]
                simp [E.cells]
              have hcs := hcs0
              have hnl2 : 0 + m + 1 + (dl.length - m) = (insE x dl).length := by rw [insE_len]; omega
              have hO9' : W9.ownsRow W6.heap.size 46 14 (.slice (some ⟨g9, 0, none⟩) (m + 1 + (dl.length - m)) c9) (insE x dl).length ((insE x dl).map E.cells).flatten := by
                rw [← hcs, ← hnl2]
                simpa only [Nat.zero_add, Nat.add_zero] using hO9
              refine ⟨k + 1, _, insE x dl, by omega, by go_num, ?_, Lib.hid (set0 hD9 _), Lib.hid ?_, Lib.hid HIT.out.symm⟩
              · exact Fr.set (((hF.trans hFW).trans hF6).trans hF9) hwD _
              · exact ownsRow_mono (ownsRow_set hO9' ⟨D, 0, none⟩ _ hne9) (by omega)
            case measure =>
              show l.length - ((k : Int) + 1).toNat < l.length - ((k : Int)).toNat
              omega
        · have hnl : ¬ ((m : Nat) : Int) < (dl.length : Nat) := by omega
          have hlm : dl.length ≤ m := by omega
          have hd : decide (m < dl.length) = false := by simpa using hlm
          have HST : Hid (∀ z, dl[m]? = some z → ¬ z.pl < x.pl) := Lib.hid fun z hzz h => by
            have := (List.getElem?_eq_some_iff.1 hzz).1
            omega
          have hform : (A = none ∧ cap = 0) ∨ (∃ g, A = some ⟨g, 0, none⟩ ∧ m < cap) ∨ (∃ g, A = some ⟨g, 0, none⟩ ∧ cap = m) := by
            rcases HO3.out.2 with ⟨h1, h2⟩ | ⟨g, c', cur, hv, _⟩
            · injection h1 with h1 _ h3
              exact .inl ⟨h1, h3⟩
            · injection hv with h1 _ h3
              rcases Nat.lt_or_ge m cap with h4 | h4
              · exact .inr (.inl ⟨g, h1, h4⟩)
              · exact .inr (.inr ⟨g, h1, by omega⟩)
          clear hml
          rcases hform with ⟨hA, hcp⟩ | ⟨g, hA, hcp⟩ | ⟨g, hA, hcp⟩
          · subst hA hcp
            obtain rfl : m = 0 := by omega
            have cD1 := cell0 (hFm.at_ HD3.out)
            go_wp2_with fail
            refine start_ (n := 20) (S := fun w' => w'.cell? ⟨D, 0, none⟩ = some (.slice none dl.length 0)) (ds := []) #[false, false, false, false, false, false, false, false, false, false, false, false, false, false, false, false, false, false, false, false] (by kernel_rfl) rfl rfl (cD1) (fun hHeld => ?_)
            refine with_tabW Rnew10.tab Rnew10.bits (fun HT_ HW_ => ?_)
            refine pure_ (i := 0) (N := some 31) (v := ?_) (a' := ?_) #[true, false, false, false, false, false, false, false, false, false, false, false, false, false, false, false, false, false, false, false] rfl rfl (any_of HT_.out (by kernel_rfl)) (fun _ _ _ h => h) (Or.inl ⟨by rfl, ?_⟩) ?_ ?_
            rotate_left
            · intro w'
              go_simp
              with_reducible rfl
            rotate_left
            · simp only [Act.put, List.setIfInBounds_toArray, List.set_cons_zero, List.set_cons_succ, i64_w, i32_w]
              rfl
            refine pure_ (i := 1) (N := some 32) (v := ?_) (a' := ?_) #[true, true, false, false, false, false, false, false, false, false, false, false, false, false, false, false, false, false, false, false] rfl rfl (any_of HT_.out (by kernel_rfl)) (fun _ _ _ h => h) (Or.inl ⟨by rfl, ?_⟩) ?_ ?_
            rotate_left
            · intro w'
              go_simp
              with_reducible rfl
            rotate_left
            · simp only [Act.put, List.setIfInBounds_toArray, List.set_cons_zero, List.set_cons_succ, i64_w, i32_w]
              rfl
            refine pure_ (i := 2) (N := some 33) (v := ?_) (a' := ?_) #[true, true, true, false, false, false, false, false, false, false, false, false, false, false, false, false, false, false, false, false] rfl rfl (any_of HT_.out (by kernel_rfl)) (fun _ _ _ h => h) (Or.inl ⟨by rfl, ?_⟩) ?_ ?_
            rotate_left
            · intro w'
              go_simp
              with_reducible rfl
            rotate_left
            · simp only [Act.put, List.setIfInBounds_toArray, List.set_cons_zero, List.set_cons_succ, i64_w, i32_w]
              rfl
            refine pure_ (i := 3) (N := some 34) (v := ?_) (a' := ?_) #[true, true, true, true, false, false, false, false, false, false, false, false, false, false, false, false, false, false, false, false] rfl rfl (any_of HT_.out (by kernel_rfl)) (fun _ _ _ h => h) (Or.inl ⟨by rfl, ?_⟩) ?_ ?_
            rotate_left
            · intro w'
              go_simp
              with_reducible rfl
            rotate_left
            · simp only [Act.put, List.setIfInBounds_toArray, List.set_cons_zero, List.set_cons_succ, i64_w, i32_w]
              rfl
            refine take_ (i := 4) (N := some 35) (v := ?_) (a' := ?_) #[true, true, true, true, true, false, false, false, false, false, false, false, false, false, false, false, false, false, false, false] rfl rfl (take_ofW HT_.out HW_.out (by kernel_rfl)) (fun _ _ _ h => h) (Or.inl ⟨by rfl, ?_⟩) hHeld ?_ ?_
            rotate_left
            · intro w' s0
              go_simp
              with_reducible rfl
            rotate_left
            · simp only [Act.put, List.setIfInBounds_toArray, List.set_cons_zero, List.set_cons_succ, i64_w, i32_w]
              rfl
            refine pure_ (i := 5) (N := some 36) (v := ?_) (a' := ?_) #[true, true, true, true, true, true, false, false, false, false, false, false, false, false, false, false, false, false, false, false] rfl rfl (any_of HT_.out (by kernel_rfl)) (fun _ _ _ h => h) (Or.inl ⟨by rfl, ?_⟩) ?_ ?_
            rotate_left
            · intro w'
              go_simp
              with_reducible rfl
            rotate_left
            · simp only [Act.put, List.setIfInBounds_toArray, List.set_cons_zero, List.set_cons_succ, i64_w, i32_w]
              rfl
            refine pure_ (i := 6) (N := some 37) (v := ?_) (a' := ?_) #[true, true, true, true, true, true, true, false, false, false, false, false, false, false, false, false, false, false, false, false] rfl rfl (any_of HT_.out (by kernel_rfl)) (fun _ _ _ h => h) (Or.inl ⟨by rfl, ?_⟩) ?_ ?_
            rotate_left
            · intro w'
              go_simp
              with_reducible rfl
            rotate_left
            · simp only [Act.put, List.setIfInBounds_toArray, List.set_cons_zero, List.set_cons_succ, i64_w, i32_w]
              rfl
            refine pure_ (i := 7) (N := some 38) (v := ?_) (a' := ?_) #[true, true, true, true, true, true, true, true, false, false, false, false, false, false, false, false, false, false, false, false] rfl rfl (any_of HT_.out (by kernel_rfl)) (fun _ _ _ h => h) (Or.inl ⟨by rfl, ?_⟩) ?_ ?_
            rotate_left
            · intro w'
              go_simp
              with_reducible rfl
            rotate_left
            · simp only [Act.put, List.setIfInBounds_toArray, List.set_cons_zero, List.set_cons_succ, i64_w, i32_w]
              rfl
            refine pure_ (i := 8) (N := some 39) (v := undef) (a' := ?_) #[true, true, true, true, true, true, true, true, true, false, false, false, false, false, false, false, false, false, false, false] rfl rfl (any_of HT_.out (by kernel_rfl)) (fun _ _ _ h => h) (Or.inr ⟨by rfl, rfl⟩) ?_ ?_
            rotate_left
            · simp only [Act.put, List.setIfInBounds_toArray, List.set_cons_zero, List.set_cons_succ, i64_w, i32_w]
              rfl
            refine pure_ (i := 9) (N := some 40) (v := undef) (a' := ?_) #[true, true, true, true, true, true, true, true, true, true, false, false, false, false, false, false, false, false, false, false] rfl rfl (any_of HT_.out (by kernel_rfl)) (fun _ _ _ h => h) (Or.inr ⟨by rfl, rfl⟩) ?_ ?_
            rotate_left
            · simp only [Act.put, List.setIfInBounds_toArray, List.set_cons_zero, List.set_cons_succ, i64_w, i32_w]
              rfl
            refine pure_ (i := 10) (N := some 41) (v := undef) (a' := ?_) #[true, true, true, true, true, true, true, true, true, true, true, false, false, false, false, false, false, false, false, false] rfl rfl (any_of HT_.out (by kernel_rfl)) (fun _ _ _ h => h) (Or.inr ⟨by rfl, rfl⟩) ?_ ?_
            rotate_left
            · simp only [Act.put, List.setIfInBounds_toArray, List.set_cons_zero, List.set_cons_succ, i64_w, i32_w]
              rfl
            refine pure_ (i := 11) (N := some 42) (v := undef) (a' := ?_) #[true, true, true, true, true, true, true, true, true, true, true, true, false, false, false, false, false, false, false, false] rfl rfl (any_of HT_.out (by kernel_rfl)) (fun _ _ _ h => h) (Or.inr ⟨by rfl, rfl⟩) ?_ ?_
            rotate_left
            · simp only [Act.put, List.setIfInBounds_toArray, List.set_cons_zero, List.set_cons_succ, i64_w, i32_w]
              rfl
            refine pure_ (i := 12) (N := some 43) (v := undef) (a' := ?_) #[true, true, true, true, true, true, true, true, true, true, true, true, true, false, false, false, false, false, false, false] rfl rfl (any_of HT_.out (by kernel_rfl)) (fun _ _ _ h => h) (Or.inr ⟨by rfl, rfl⟩) ?_ ?_
            rotate_left
            · simp only [Act.put, List.setIfInBounds_toArray, List.set_cons_zero, List.set_cons_succ, i64_w, i32_w]
              rfl
            refine pure_ (i := 13) (N := some 44) (v := undef) (a' := ?_) #[true, true, true, true, true, true, true, true, true, true, true, true, true, true, false, false, false, false, false, false] rfl rfl (any_of HT_.out (by kernel_rfl)) (fun _ _ _ h => h) (Or.inr ⟨by rfl, rfl⟩) ?_ ?_
            rotate_left
            · simp only [Act.put, List.setIfInBounds_toArray, List.set_cons_zero, List.set_cons_succ, i64_w, i32_w]
              rfl
            refine pure_ (i := 14) (N := some 45) (v := undef) (a' := ?_) #[true, true, true, true, true, true, true, true, true, true, true, true, true, true, true, false, false, false, false, false] rfl rfl (any_of HT_.out (by kernel_rfl)) (fun _ _ _ h => h) (Or.inr ⟨by rfl, rfl⟩) ?_ ?_
            rotate_left
            · simp only [Act.put, List.setIfInBounds_toArray, List.set_cons_zero, List.set_cons_succ, i64_w, i32_w]
              rfl
            refine pure_ (i := 15) (N := some 46) (v := undef) (a' := ?_) #[true, true, true, true, true, true, true, true, true, true, true, true, true, true, true, true, false, false, false, false] rfl rfl (any_of HT_.out (by kernel_rfl)) (fun _ _ _ h => h) (Or.inr ⟨by rfl, rfl⟩) ?_ ?_
            rotate_left
            · simp only [Act.put, List.setIfInBounds_toArray, List.set_cons_zero, List.set_cons_succ, i64_w, i32_w]
              rfl
            refine pure_ (i := 16) (N := some 47) (v := undef) (a' := ?_) #[true, true, true, true, true, true, true, true, true, true, true, true, true, true, true, true, true, false, false, false] rfl rfl (any_of HT_.out (by kernel_rfl)) (fun _ _ _ h => h) (Or.inr ⟨by rfl, rfl⟩) ?_ ?_
            rotate_left
            · simp only [Act.put, List.setIfInBounds_toArray, List.set_cons_zero, List.set_cons_succ, i64_w, i32_w]
              rfl
            refine pure_ (i := 17) (N := some 48) (v := undef) (a' := ?_) #[true, true, true, true, true, true, true, true, true, true, true, true, true, true, true, true, true, true, false, false] rfl rfl (any_of HT_.out (by kernel_rfl)) (fun _ _ _ h => h) (Or.inr ⟨by rfl, rfl⟩) ?_ ?_
            rotate_left
            · simp only [Act.put, List.setIfInBounds_toArray, List.set_cons_zero, List.set_cons_succ, i64_w, i32_w]
              rfl
            refine pure_ (i := 18) (N := some 49) (v := undef) (a' := ?_) #[true, true, true, true, true, true, true, true, true, true, true, true, true, true, true, true, true, true, true, false] rfl rfl (any_of HT_.out (by kernel_rfl)) (fun _ _ _ h => h) (Or.inr ⟨by rfl, rfl⟩) ?_ ?_
            rotate_left
            · simp only [Act.put, List.setIfInBounds_toArray, List.set_cons_zero, List.set_cons_succ, i64_w, i32_w]
              rfl
            refine pure_ (i := 19) (N := some 50) (v := ?_) (a' := ?_) #[true, true, true, true, true, true, true, true, true, true, true, true, true, true, true, true, true, true, true, true] rfl rfl (any_of HT_.out (by kernel_rfl)) (fun _ _ _ h => h) (Or.inl ⟨by rfl, ?_⟩) ?_ ?_
            rotate_left
            · intro w'
              go_simp
              with_reducible rfl
            rotate_left
            · simp only [Act.put, List.setIfInBounds_toArray, List.set_cons_zero, List.set_cons_succ, i64_w, i32_w]
              rfl
            refine done_ (done_of HT_.out (by kernel_rfl)) ?_

            go_wp2_with fail
            generalize hW5 : World.drew wr = W5
            have hF5 : Fr W3 W5 := by rw [← hW5]; exact hFm.drew
            clear hW5 cD1
            clear cD hpx x0 x1 x2 x3 x4 x5 x6 x7 x8 x9 x10 x11 x12 x13
            refine start_ (n := 12) (S := fun w' => w'.cell? ⟨D, 0, none⟩ = some (.slice none dl.length 0) ∧ w'.cell? ⟨X, 0, none⟩ = some (.int .u16 ix) ∧ w'.cell? ⟨X, 1, none⟩ = some (.int .u8 sub) ∧ w'.cell? ⟨X, 2, none⟩ = some (.int .i64 acc) ∧ w'.cell? ⟨X, 3, none⟩ = some (.bool mp) ∧ w'.cell? ⟨X, 4, none⟩ = some (.bool lim) ∧ w'.cell? ⟨X, 5, none⟩ = some (.int .i64 t1) ∧ w'.cell? ⟨X, 6, none⟩ = some (.int .u64 n1) ∧ w'.cell? ⟨X, 7, none⟩ = some (.string b1) ∧ w'.cell? ⟨X, 8, none⟩ = some (.int .i64 t2) ∧ w'.cell? ⟨X, 9, none⟩ = some (.int .u64 n2) ∧ w'.cell? ⟨X, 10, none⟩ = some (.string b2) ∧ w'.cell? ⟨X, 11, none⟩ = some (.int .i64 p1) ∧ w'.cell? ⟨X, 12, none⟩ = some (.int .u64 p2) ∧ w'.cell? ⟨X, 13, none⟩ = some (.string p3)) (ds := []) #[false, false, false, false, false, false, false, false, false, false, false, false] (by kernel_rfl) rfl rfl ⟨(cell0 (hF5.drew.at_ HD3.out)), (hF5.drew.cell m0), (hF5.drew.cell m1), (hF5.drew.cell m2), (hF5.drew.cell m3), (hF5.drew.cell m4), (hF5.drew.cell m5), (hF5.drew.cell m6), (hF5.drew.cell m7), (hF5.drew.cell m8), (hF5.drew.cell m9), (hF5.drew.cell m10), (hF5.drew.cell m11), (hF5.drew.cell m12), (hF5.drew.cell m13)⟩ (fun hHeld => ?_)
            refine with_tabW Rnew12.tab Rnew12.bits (fun HT_ HW_ => ?_)
            generalize hW6 : W5.drew = W6 at hHeld ⊢
            have hF6 : Fr W3 W6 := by rw [← hW6]; exact hF5.drew
            have HS6 := Lib.hid hHeld
            clear hW6
            have hz6 := hF6.size
            have hRm : Rd W6 14 (.slice none 0 0) 0 ((dl.map E.cells).flatten.take (0 * 14)) := (Rd.take hR3.out hm).fr hF6
            have hones : ∀ x ∈ ((dl.map E.cells).flatten.take (0 * 14)), x.oneCell' = true := fun x hx => ecs_one dl x (List.mem_of_mem_take hx)
            obtain ⟨i0, hi0, hiz0, hiz1, hiz2⟩ := info_parts infoEntry
            refine pure_ (i := 1) (N := some 54) (v := ?_) (a' := ?_) #[false, true, false, false, false, false, false, false, false, false, false, false] rfl rfl (any_of HT_.out (by kernel_rfl)) (fun _ _ _ h => h) (Or.inl ⟨by rfl, ?_⟩) ?_ ?_
            rotate_left
            · intro w'
              go_simp
              with_reducible rfl
            rotate_left
            · simp only [Act.put, List.setIfInBounds_toArray, List.set_cons_zero, List.set_cons_succ, i64_w, i32_w]
              rfl
            refine pure_ (i := 2) (N := some 55) (v := ?_) (a' := ?_) #[false, true, true, false, false, false, false, false, false, false, false, false] rfl rfl (any_of HT_.out (by kernel_rfl)) (fun _ _ _ h => h) (Or.inl ⟨by rfl, ?_⟩) ?_ ?_
            rotate_left
            · intro w'
              go_simp
              with_reducible rfl
            rotate_left
            · simp only [Act.put, List.setIfInBounds_toArray, List.set_cons_zero, List.set_cons_succ, i64_w, i32_w]
              rfl
            refine pure_ (i := 3) (N := some 56) (v := ?_) (a' := ?_) #[false, true, true, true, false, false, false, false, false, false, false, false] rfl rfl (any_of HT_.out (by kernel_rfl)) (fun _ _ _ h => h) (Or.inl ⟨by rfl, ?_⟩) ?_ ?_
            rotate_left
            · intro w'
              go_simp
              with_reducible rfl
            rotate_left
            · simp only [Act.put, List.setIfInBounds_toArray, List.set_cons_zero, List.set_cons_succ, i64_w, i32_w]
              rfl
            refine pure_ (i := 5) (N := some 58) (v := ?_) (a' := ?_) #[false, true, true, true, false, true, false, false, false, false, false, false] rfl rfl (any_of HT_.out (by kernel_rfl)) (fun _ _ _ h => h) (Or.inl ⟨by rfl, ?_⟩) ?_ ?_
            rotate_left
            · intro w'
              go_simp
              with_reducible rfl
            rotate_left
            · simp only [Act.put, List.setIfInBounds_toArray, List.set_cons_zero, List.set_cons_succ, i64_w, i32_w]
              rfl
            refine take_ (i := 4) (N := some 57) (v := ?_) (a' := ?_) #[false, true, true, true, true, true, false, false, false, false, false, false] rfl rfl (take_ofW HT_.out HW_.out (by kernel_rfl)) (fun _ _ _ h => h) (Or.inl ⟨by rfl, ?_⟩) hHeld ?_ ?_
            rotate_left
            · rintro w' ⟨s0, s1, s2, s3, s4, s5, s6, s7, s8, s9, s10, s11, s12, s13, s14⟩
              go_simp
              with_reducible rfl
            rotate_left
            · simp only [Act.put, List.setIfInBounds_toArray, List.set_cons_zero, List.set_cons_succ, i64_w, i32_w]
              rfl
            refine pure_ (i := 6) (N := some 59) (v := ?_) (a' := ?_) #[false, true, true, true, true, true, true, false, false, false, false, false] rfl rfl (any_of HT_.out (by kernel_rfl)) (fun _ _ _ h => h) (Or.inl ⟨by rfl, ?_⟩) ?_ ?_
            rotate_left
            · intro w'
              go_simp
              with_reducible rfl
            rotate_left
            · simp only [Act.put, List.setIfInBounds_toArray, List.set_cons_zero, List.set_cons_succ, i64_w, i32_w]
              rfl
            refine take_ (i := 8) (N := some 61) (v := ?_) (a' := ?_) #[false, true, true, true, true, true, true, false, true, false, false, false] rfl rfl (take_ofW HT_.out HW_.out (by kernel_rfl)) (fun _ _ _ h => h) (Or.inl ⟨by rfl, ?_⟩) hHeld ?_ ?_
            rotate_left
            · rintro w' ⟨s0, s1, s2, s3, s4, s5, s6, s7, s8, s9, s10, s11, s12, s13, s14⟩
              go_simp
              with_reducible rfl
            rotate_left
            · simp only [Act.put, List.setIfInBounds_toArray, List.set_cons_zero, List.set_cons_succ, i64_w, i32_w]
              rfl
            refine join_ (σ := Value × Value × Value) 2 #[true, true, true, true, true, true, true, true, true, true, false, false] (fun s => [(53, s.1), (60, s.2.1), (62, s.2.2)]) (fun s w' => Fr W6 w' ∧ w'.ownsRow W6.heap.size 46 14 s.2.1 (0 + 0) ([] ++ ((dl.map E.cells).flatten.take (0 * 14))) ∧ Rd w' 14 s.2.2 1 [.int .u16 ix, .int .u8 sub, .int .i64 acc, .bool mp, .bool lim, .int .i64 t1, .int .u64 n1, .string b1, .int .i64 t2, .int .u64 n2, .string b2, .int .i64 p1, .int .u64 p2, .string p3]) ?_ ?_
            rotate_left
            · intro hCont
              refine two_ (i := 0) (j := 9) (Ni := some 53) (Nj := some 62) #[true, true, true, true, true, true, true, false, true, false, false, false] #[false, true, true, true, true, true, true, false, true, true, false, false] rfl rfl rfl rfl (two_of HT_.out (by kernel_rfl)) (by decide) (by decide) (fun K hK => ?_) (fun K hK => ?_)
              · skip
                refine value_ (w1 := W6.alloc (.cells #[] 46)) (v := .slice (some ⟨W6.heap.size, 0, none⟩) 0 0) (by rfl) rfl ?_ ?_
                · go_simp
                obtain ⟨W6_0, hNW6_0⟩ : ∃ q, q = W6.alloc (.cells #[] 46) := ⟨_, rfl⟩
                have hGW6_0 : Fr W6 W6_0 := by rw [hNW6_0]; exact Fr.alloc (Fr.refl W6) _
                have hAW6_0 : Fr W6 W6_0 := by rw [hNW6_0]; exact Fr.alloc (Fr.refl _) _
                have hsW6_0 : W6_0.heap.size = W6.heap.size + 1 := by rw [hNW6_0]; simp
                have hOW6_0 : W6_0.ownsRow W6.heap.size 46 14 (.slice (some ⟨W6.heap.size, 0, none⟩) 0 0) 0 [] := by rw [hNW6_0]; exact World.ownsRow_made _ #[] 0 (by omega) (by simp [maxLen]) (by simp)
                rw [← hNW6_0]
                clear hNW6_0
                refine hK.out _ _ ⟨(hGW6_0.cell HS6.out.1), (hGW6_0.cell HS6.out.2.1), (hGW6_0.cell HS6.out.2.2.1), (hGW6_0.cell HS6.out.2.2.2.1), (hGW6_0.cell HS6.out.2.2.2.2.1), (hGW6_0.cell HS6.out.2.2.2.2.2.1), (hGW6_0.cell HS6.out.2.2.2.2.2.2.1), (hGW6_0.cell HS6.out.2.2.2.2.2.2.2.1), (hGW6_0.cell HS6.out.2.2.2.2.2.2.2.2.1), (hGW6_0.cell HS6.out.2.2.2.2.2.2.2.2.2.1), (hGW6_0.cell HS6.out.2.2.2.2.2.2.2.2.2.2.1), (hGW6_0.cell HS6.out.2.2.2.2.2.2.2.2.2.2.2.1), (hGW6_0.cell HS6.out.2.2.2.2.2.2.2.2.2.2.2.2.1), (hGW6_0.cell HS6.out.2.2.2.2.2.2.2.2.2.2.2.2.2.1), (hGW6_0.cell HS6.out.2.2.2.2.2.2.2.2.2.2.2.2.2.2)⟩ (fun hHeld => ?_)
                clear hK K
                refine norm_ (a' := ?_) ?_ ?_
                rotate_left
                · show Act.put _ (some 53) _ = _
                  simp only [Act.put, List.setIfInBounds_toArray, List.set_cons_zero, List.set_cons_succ, i64_w, i32_w]
                  rfl
                refine two_ (i := 7) (j := 9) (Ni := some 60) (Nj := some 62) #[true, true, true, true, true, true, true, true, true, false, false, false] #[true, true, true, true, true, true, true, false, true, true, false, false] rfl rfl rfl rfl (two_of HT_.out (by kernel_rfl)) (by decide) (by decide) (fun K hK => ?_) (fun K hK => ?_)
                · skip
                  refine step_append_rd _ (by rfl) (.tmp 53) (.tmp 59) _ (by rfl) W6.heap.size 46 i0 _ 14 120 Tryz.underlying22 hi0 hiz0 hiz1 hiz2 rfl (by omega) (.slice (some ⟨W6.heap.size, 0, none⟩) 0 0) 0 [] (by rfl) hOW6_0 (.slice none 0 0) 0 ((dl.map E.cells).flatten.take (0 * 14)) (by rfl) (Rd.fr hRm hGW6_0) hones (by simp only [maxLen]; omega) (by omega) (by omega) ?_
                  intro v60 W6_0_7 hOW6_0_7 hgW6_0_7
                  have hGW6_0_7 : Fr W6 W6_0_7 := Fr.grown hGW6_0 hgW6_0_7 (fun r hr => by simp [Value.ownBlock] at hr; omega)
                  have hzW6_0_7 := hgW6_0_7.size
                  refine hK.out _ _ ⟨(hGW6_0_7.cell HS6.out.1), (hGW6_0_7.cell HS6.out.2.1), (hGW6_0_7.cell HS6.out.2.2.1), (hGW6_0_7.cell HS6.out.2.2.2.1), (hGW6_0_7.cell HS6.out.2.2.2.2.1), (hGW6_0_7.cell HS6.out.2.2.2.2.2.1), (hGW6_0_7.cell HS6.out.2.2.2.2.2.2.1), (hGW6_0_7.cell HS6.out.2.2.2.2.2.2.2.1), (hGW6_0_7.cell HS6.out.2.2.2.2.2.2.2.2.1), (hGW6_0_7.cell HS6.out.2.2.2.2.2.2.2.2.2.1), (hGW6_0_7.cell HS6.out.2.2.2.2.2.2.2.2.2.2.1), (hGW6_0_7.cell HS6.out.2.2.2.2.2.2.2.2.2.2.2.1), (hGW6_0_7.cell HS6.out.2.2.2.2.2.2.2.2.2.2.2.2.1), (hGW6_0_7.cell HS6.out.2.2.2.2.2.2.2.2.2.2.2.2.2.1), (hGW6_0_7.cell HS6.out.2.2.2.2.2.2.2.2.2.2.2.2.2.2)⟩ (fun hHeld => ?_)
                  clear hK K
                  refine norm_ (a' := ?_) ?_ ?_
                  rotate_left
                  · show Act.put _ (some 60) _ = _
                    simp only [Act.put, List.setIfInBounds_toArray, List.set_cons_zero, List.set_cons_succ, i64_w, i32_w]
                    rfl
                  refine one_ (i := 9) (N := some 62) #[true, true, true, true, true, true, true, true, true, true, false, false] rfl rfl (one_of HT_.out (by kernel_rfl)) (by decide) (fun K hK => ?_)
                  refine value_ (w1 := W6_0_7.alloc (.cells #[.int .u16 ix, .int .u8 sub, .int .i64 acc, .bool mp, .bool lim, .int .i64 t1, .int .u64 n1, .string b1, .int .i64 t2, .int .u64 n2, .string b2, .int .i64 p1, .int .u64 p2, .string p3] 46)) (v := .slice (some ⟨W6_0_7.heap.size, 0, none⟩) 1 1) (by rfl) rfl ?_ ?_
                  · go_simp
                  obtain ⟨W6_0_7_9, hNW6_0_7_9⟩ : ∃ q, q = W6_0_7.alloc (.cells #[.int .u16 ix, .int .u8 sub, .int .i64 acc, .bool mp, .bool lim, .int .i64 t1, .int .u64 n1, .string b1, .int .i64 t2, .int .u64 n2, .string b2, .int .i64 p1, .int .u64 p2, .string p3] 46) := ⟨_, rfl⟩
                  have hGW6_0_7_9 : Fr W6 W6_0_7_9 := by rw [hNW6_0_7_9]; exact Fr.alloc (hGW6_0_7) _
                  have hAW6_0_7_9 : Fr W6_0_7 W6_0_7_9 := by rw [hNW6_0_7_9]; exact Fr.alloc (Fr.refl _) _
                  have hsW6_0_7_9 : W6_0_7_9.heap.size = W6_0_7.heap.size + 1 := by rw [hNW6_0_7_9]; simp
                  have hRW6_0_7_9 : Rd W6_0_7_9 14 (.slice (some ⟨W6_0_7.heap.size, 0, none⟩) 1 1) 1 [.int .u16 ix, .int .u8 sub, .int .i64 acc, .bool mp, .bool lim, .int .i64 t1, .int .u64 n1, .string b1, .int .i64 t2, .int .u64 n2, .string b2, .int .i64 p1, .int .u64 p2, .string p3] := by rw [hNW6_0_7_9]; exact Rd.of_block (heap_alloc_new _ _) (Nat.le_refl _) (by omega) (by simp) (List.prefix_refl _)
                  have hQW6_0_7_9 := ownsRow_fr hOW6_0_7 hAW6_0_7_9
                  rw [← hNW6_0_7_9]
                  clear hNW6_0_7_9
                  refine hK.out _ _ ⟨(hGW6_0_7_9.cell HS6.out.1), (hGW6_0_7_9.cell HS6.out.2.1), (hGW6_0_7_9.cell HS6.out.2.2.1), (hGW6_0_7_9.cell HS6.out.2.2.2.1), (hGW6_0_7_9.cell HS6.out.2.2.2.2.1), (hGW6_0_7_9.cell HS6.out.2.2.2.2.2.1), (hGW6_0_7_9.cell HS6.out.2.2.2.2.2.2.1), (hGW6_0_7_9.cell HS6.out.2.2.2.2.2.2.2.1), (hGW6_0_7_9.cell HS6.out.2.2.2.2.2.2.2.2.1), (hGW6_0_7_9.cell HS6.out.2.2.2.2.2.2.2.2.2.1), (hGW6_0_7_9.cell HS6.out.2.2.2.2.2.2.2.2.2.2.1), (hGW6_0_7_9.cell HS6.out.2.2.2.2.2.2.2.2.2.2.2.1), (hGW6_0_7_9.cell HS6.out.2.2.2.2.2.2.2.2.2.2.2.2.1), (hGW6_0_7_9.cell HS6.out.2.2.2.2.2.2.2.2.2.2.2.2.2.1), (hGW6_0_7_9.cell HS6.out.2.2.2.2.2.2.2.2.2.2.2.2.2.2)⟩ (fun hHeld => ?_)
                  clear hK K
                  refine norm_ (a' := ?_) ?_ ?_
                  rotate_left
                  · show Act.put _ (some 62) _ = _
                    simp only [Act.put, List.setIfInBounds_toArray, List.set_cons_zero, List.set_cons_succ, i64_w, i32_w]
                    rfl
                  exact norm_ (by simp only [putAll, Act.put, List.setIfInBounds_toArray, List.set_cons_zero, List.set_cons_succ]) (hCont (.slice (some ⟨W6.heap.size, 0, none⟩) 0 0, v60, .slice (some ⟨W6_0_7.heap.size, 0, none⟩) 1 1) _ ⟨hGW6_0_7_9, hQW6_0_7_9, hRW6_0_7_9⟩)
                · skip
                  refine value_ (w1 := W6_0.alloc (.cells #[.int .u16 ix, .int .u8 sub, .int .i64 acc, .bool mp, .bool lim, .int .i64 t1, .int .u64 n1, .string b1, .int .i64 t2, .int .u64 n2, .string b2, .int .i64 p1, .int .u64 p2, .string p3] 46)) (v := .slice (some ⟨W6_0.heap.size, 0, none⟩) 1 1) (by rfl) rfl ?_ ?_
                  · go_simp
                  obtain ⟨W6_0_9, hNW6_0_9⟩ : ∃ q, q = W6_0.alloc (.cells #[.int .u16 ix, .int .u8 sub, .int .i64 acc, .bool mp, .bool lim, .int .i64 t1, .int .u64 n1, .string b1, .int .i64 t2, .int .u64 n2, .string b2, .int .i64 p1, .int .u64 p2, .string p3] 46) := ⟨_, rfl⟩
                  have hGW6_0_9 : Fr W6 W6_0_9 := by rw [hNW6_0_9]; exact Fr.alloc (hGW6_0) _
                  have hAW6_0_9 : Fr W6_0 W6_0_9 := by rw [hNW6_0_9]; exact Fr.alloc (Fr.refl _) _
                  have hsW6_0_9 : W6_0_9.heap.size = W6_0.heap.size + 1 := by rw [hNW6_0_9]; simp
                  have hRW6_0_9 : Rd W6_0_9 14 (.slice (some ⟨W6_0.heap.size, 0, none⟩) 1 1) 1 [.int .u16 ix, .int .u8 sub, .int .i64 acc, .bool mp, .bool lim, .int .i64 t1, .int .u64 n1, .string b1, .int .i64 t2, .int .u64 n2, .string b2, .int .i64 p1, .int .u64 p2, .string p3] := by rw [hNW6_0_9]; exact Rd.of_block (heap_alloc_new _ _) (Nat.le_refl _) (by omega) (by simp) (List.prefix_refl _)
                  rw [← hNW6_0_9]
                  clear hNW6_0_9
                  refine hK.out _ _ ⟨(hGW6_0_9.cell HS6.out.1), (hGW6_0_9.cell HS6.out.2.1), (hGW6_0_9.cell HS6.out.2.2.1), (hGW6_0_9.cell HS6.out.2.2.2.1), (hGW6_0_9.cell HS6.out.2.2.2.2.1), (hGW6_0_9.cell HS6.out.2.2.2.2.2.1), (hGW6_0_9.cell HS6.out.2.2.2.2.2.2.1), (hGW6_0_9.cell HS6.out.2.2.2.2.2.2.2.1), (hGW6_0_9.cell HS6.out.2.2.2.2.2.2.2.2.1), (hGW6_0_9.cell HS6.out.2.2.2.2.2.2.2.2.2.1), (hGW6_0_9.cell HS6.out.2.2.2.2.2.2.2.2.2.2.1), (hGW6_0_9.cell HS6.out.2.2.2.2.2.2.2.2.2.2.2.1), (hGW6_0_9.cell HS6.out.2.2.2.2.2.2.2.2.2.2.2.2.1), (hGW6_0_9.cell HS6.out.2.2.2.2.2.2.2.2.2.2.2.2.2.1), (hGW6_0_9.cell HS6.out.2.2.2.2.2.2.2.2.2.2.2.2.2.2)⟩ (fun hHeld => ?_)
                  clear hK K
                  refine norm_ (a' := ?_) ?_ ?_
                  rotate_left
                  · show Act.put _ (some 62) _ = _
                    simp only [Act.put, List.setIfInBounds_toArray, List.set_cons_zero, List.set_cons_succ, i64_w, i32_w]
                    rfl
                  refine one_ (i := 7) (N := some 60) #[true, true, true, true, true, true, true, true, true, true, false, false] rfl rfl (one_of HT_.out (by kernel_rfl)) (by decide) (fun K hK => ?_)
                  refine step_append_rd _ (by rfl) (.tmp 53) (.tmp 59) _ (by rfl) W6.heap.size 46 i0 _ 14 120 Tryz.underlying22 hi0 hiz0 hiz1 hiz2 rfl (by omega) (.slice (some ⟨W6.heap.size, 0, none⟩) 0 0) 0 [] (by rfl) (ownsRow_fr hOW6_0 hAW6_0_9) (.slice none 0 0) 0 ((dl.map E.cells).flatten.take (0 * 14)) (by rfl) (Rd.fr hRm hGW6_0_9) hones (by simp only [maxLen]; omega) (by omega) (by omega) ?_
                  intro v60 W6_0_9_7 hOW6_0_9_7 hgW6_0_9_7
                  have hGW6_0_9_7 : Fr W6 W6_0_9_7 := Fr.grown hGW6_0_9 hgW6_0_9_7 (fun r hr => by simp [Value.ownBlock] at hr; omega)
                  have hzW6_0_9_7 := hgW6_0_9_7.size
                  have hRW6_0_9_7 := Rd.grown hRW6_0_9 hgW6_0_9_7 (fun g hg hh => by simp [Value.ownBlock] at hg hh; omega)
                  refine hK.out _ _ ⟨(hGW6_0_9_7.cell HS6.out.1), (hGW6_0_9_7.cell HS6.out.2.1), (hGW6_0_9_7.cell HS6.out.2.2.1), (hGW6_0_9_7.cell HS6.out.2.2.2.1), (hGW6_0_9_7.cell HS6.out.2.2.2.2.1), (hGW6_0_9_7.cell HS6.out.2.2.2.2.2.1), (hGW6_0_9_7.cell HS6.out.2.2.2.2.2.2.1), (hGW6_0_9_7.cell HS6.out.2.2.2.2.2.2.2.1), (hGW6_0_9_7.cell HS6.out.2.2.2.2.2.2.2.2.1), (hGW6_0_9_7.cell HS6.out.2.2.2.2.2.2.2.2.2.1), (hGW6_0_9_7.cell HS6.out.2.2.2.2.2.2.2.2.2.2.1), (hGW6_0_9_7.cell HS6.out.2.2.2.2.2.2.2.2.2.2.2.1), (hGW6_0_9_7.cell HS6.out.2.2.2.2.2.2.2.2.2.2.2.2.1), (hGW6_0_9_7.cell HS6.out.2.2.2.2.2.2.2.2.2.2.2.2.2.1), (hGW6_0_9_7.cell HS6.out.2.2.2.2.2.2.2.2.2.2.2.2.2.2)⟩ (fun hHeld => ?_)
                  clear hK K
                  refine norm_ (a' := ?_) ?_ ?_
                  rotate_left
                  · show Act.put _ (some 60) _ = _
                    simp only [Act.put, List.setIfInBounds_toArray, List.set_cons_zero, List.set_cons_succ, i64_w, i32_w]
                    rfl
                  exact norm_ (by simp only [putAll, Act.put, List.setIfInBounds_toArray, List.set_cons_zero, List.set_cons_succ]) (hCont (.slice (some ⟨W6.heap.size, 0, none⟩) 0 0, v60, .slice (some ⟨W6_0.heap.size, 0, none⟩) 1 1) _ ⟨hGW6_0_9_7, hOW6_0_9_7, hRW6_0_9_7⟩)
              · skip
                refine value_ (w1 := W6.alloc (.cells #[.int .u16 ix, .int .u8 sub, .int .i64 acc, .bool mp, .bool lim, .int .i64 t1, .int .u64 n1, .string b1, .int .i64 t2, .int .u64 n2, .string b2, .int .i64 p1, .int .u64 p2, .string p3] 46)) (v := .slice (some ⟨W6.heap.size, 0, none⟩) 1 1) (by rfl) rfl ?_ ?_
                · go_simp
                obtain ⟨W6_9, hNW6_9⟩ : ∃ q, q = W6.alloc (.cells #[.int .u16 ix, .int .u8 sub, .int .i64 acc, .bool mp, .bool lim, .int .i64 t1, .int .u64 n1, .string b1, .int .i64 t2, .int .u64 n2, .string b2, .int .i64 p1, .int .u64 p2, .string p3] 46) := ⟨_, rfl⟩
                have hGW6_9 : Fr W6 W6_9 := by rw [hNW6_9]; exact Fr.alloc (Fr.refl W6) _
                have hAW6_9 : Fr W6 W6_9 := by rw [hNW6_9]; exact Fr.alloc (Fr.refl _) _
                have hsW6_9 : W6_9.heap.size = W6.heap.size + 1 := by rw [hNW6_9]; simp
                have hRW6_9 : Rd W6_9 14 (.slice (some ⟨W6.heap.size, 0, none⟩) 1 1) 1 [.int .u16 ix, .int .u8 sub, .int .i64 acc, .bool mp, .bool lim, .int .i64 t1, .int .u64 n1, .string b1, .int .i64 t2, .int .u64 n2, .string b2, .int .i64 p1, .int .u64 p2, .string p3] := by rw [hNW6_9]; exact Rd.of_block (heap_alloc_new _ _) (Nat.le_refl _) (by omega) (by simp) (List.prefix_refl _)
                rw [← hNW6_9]
                clear hNW6_9
                refine hK.out _ _ ⟨(hGW6_9.cell HS6.out.1), (hGW6_9.cell HS6.out.2.1), (hGW6_9.cell HS6.out.2.2.1), (hGW6_9.cell HS6.out.2.2.2.1), (hGW6_9.cell HS6.out.2.2.2.2.1), (hGW6_9.cell HS6.out.2.2.2.2.2.1), (hGW6_9.cell HS6.out.2.2.2.2.2.2.1), (hGW6_9.cell HS6.out.2.2.2.2.2.2.2.1), (hGW6_9.cell HS6.out.2.2.2.2.2.2.2.2.1), (hGW6_9.cell HS6.out.2.2.2.2.2.2.2.2.2.1), (hGW6_9.cell HS6.out.2.2.2.2.2.2.2.2.2.2.1), (hGW6_9.cell HS6.out.2.2.2.2.2.2.2.2.2.2.2.1), (hGW6_9.cell HS6.out.2.2.2.2.2.2.2.2.2.2.2.2.1), (hGW6_9.cell HS6.out.2.2.2.2.2.2.2.2.2.2.2.2.2.1), (hGW6_9.cell HS6.out.2.2.2.2.2.2.2.2.2.2.2.2.2.2)⟩ (fun hHeld => ?_)
                clear hK K
                refine norm_ (a' := ?_) ?_ ?_
                rotate_left
                · show Act.put _ (some 62) _ = _
                  simp only [Act.put, List.setIfInBounds_toArray, List.set_cons_zero, List.set_cons_succ, i64_w, i32_w]
                  rfl
                refine one_ (i := 0) (N := some 53) #[true, true, true, true, true, true, true, false, true, true, false, false] rfl rfl (one_of HT_.out (by kernel_rfl)) (by decide) (fun K hK => ?_)
                refine value_ (w1 := W6_9.alloc (.cells #[] 46)) (v := .slice (some ⟨W6_9.heap.size, 0, none⟩) 0 0) (by rfl) rfl ?_ ?_
                · go_simp
                obtain ⟨W6_9_0, hNW6_9_0⟩ : ∃ q, q = W6_9.alloc (.cells #[] 46) := ⟨_, rfl⟩
                have hGW6_9_0 : Fr W6 W6_9_0 := by rw [hNW6_9_0]; exact Fr.alloc (hGW6_9) _
                have hAW6_9_0 : Fr W6_9 W6_9_0 := by rw [hNW6_9_0]; exact Fr.alloc (Fr.refl _) _
                have hsW6_9_0 : W6_9_0.heap.size = W6_9.heap.size + 1 := by rw [hNW6_9_0]; simp
                have hOW6_9_0 : W6_9_0.ownsRow W6.heap.size 46 14 (.slice (some ⟨W6_9.heap.size, 0, none⟩) 0 0) 0 [] := by rw [hNW6_9_0]; exact World.ownsRow_made _ #[] 0 (by omega) (by simp [maxLen]) (by simp)
                rw [← hNW6_9_0]
                clear hNW6_9_0
                refine hK.out _ _ ⟨(hGW6_9_0.cell HS6.out.1), (hGW6_9_0.cell HS6.out.2.1), (hGW6_9_0.cell HS6.out.2.2.1), (hGW6_9_0.cell HS6.out.2.2.2.1), (hGW6_9_0.cell HS6.out.2.2.2.2.1), (hGW6_9_0.cell HS6.out.2.2.2.2.2.1), (hGW6_9_0.cell HS6.out.2.2.2.2.2.2.1), (hGW6_9_0.cell HS6.out.2.2.2.2.2.2.2.1), (hGW6_9_0.cell HS6.out.2.2.2.2.2.2.2.2.1), (hGW6_9_0.cell HS6.out.2.2.2.2.2.2.2.2.2.1), (hGW6_9_0.cell HS6.out.2.2.2.2.2.2.2.2.2.2.1), (hGW6_9_0.cell HS6.out.2.2.2.2.2.2.2.2.2.2.2.1), (hGW6_9_0.cell HS6.out.2.2.2.2.2.2.2.2.2.2.2.2.1), (hGW6_9_0.cell HS6.out.2.2.2.2.2.2.2.2.2.2.2.2.2.1), (hGW6_9_0.cell HS6.out.2.2.2.2.2.2.2.2.2.2.2.2.2.2)⟩ (fun hHeld => ?_)
                clear hK K
                refine norm_ (a' := ?_) ?_ ?_
                rotate_left
                · show Act.put _ (some 53) _ = _
                  simp only [Act.put, List.setIfInBounds_toArray, List.set_cons_zero, List.set_cons_succ, i64_w, i32_w]
                  rfl
                refine one_ (i := 7) (N := some 60) #[true, true, true, true, true, true, true, true, true, true, false, false] rfl rfl (one_of HT_.out (by kernel_rfl)) (by decide) (fun K hK => ?_)
                refine step_append_rd _ (by rfl) (.tmp 53) (.tmp 59) _ (by rfl) W6.heap.size 46 i0 _ 14 120 Tryz.underlying22 hi0 hiz0 hiz1 hiz2 rfl (by omega) (.slice (some ⟨W6_9.heap.size, 0, none⟩) 0 0) 0 [] (by rfl) hOW6_9_0 (.slice none 0 0) 0 ((dl.map E.cells).flatten.take (0 * 14)) (by rfl) (Rd.fr hRm hGW6_9_0) hones (by simp only [maxLen]; omega) (by omega) (by omega) ?_
                intro v60 W6_9_0_7 hOW6_9_0_7 hgW6_9_0_7
                have hGW6_9_0_7 : Fr W6 W6_9_0_7 := Fr.grown hGW6_9_0 hgW6_9_0_7 (fun r hr => by simp [Value.ownBlock] at hr; omega)
                have hzW6_9_0_7 := hgW6_9_0_7.size
                have hRW6_9_0_7 := Rd.grown (Rd.fr hRW6_9 hAW6_9_0) hgW6_9_0_7 (fun g hg hh => by simp [Value.ownBlock] at hg hh; omega)
                refine hK.out _ _ ⟨(hGW6_9_0_7.cell HS6.out.1), (hGW6_9_0_7.cell HS6.out.2.1), (hGW6_9_0_7.cell HS6.out.2.2.1), (hGW6_9_0_7.cell HS6.out.2.2.2.1), (hGW6_9_0_7.cell HS6.out.2.2.2.2.1), (hGW6_9_0_7.cell HS6.out.2.2.2.2.2.1), (hGW6_9_0_7.cell HS6.out.2.2.2.2.2.2.1), (hGW6_9_0_7.cell HS6.out.2.2.2.2.2.2.2.1), (hGW6_9_0_7.cell HS6.out.2.2.2.2.2.2.2.2.1), (hGW6_9_0_7.cell HS6.out.2.2.2.2.2.2.2.2.2.1), (hGW6_9_0_7.cell HS6.out.2.2.2.2.2.2.2.2.2.2.1), (hGW6_9_0_7.cell HS6.out.2.2.2.2.2.2.2.2.2.2.2.1), (hGW6_9_0_7.cell HS6.out.2.2.2.2.2.2.2.2.2.2.2.2.1), (hGW6_9_0_7.cell HS6.out.2.2.2.2.2.2.2.2.2.2.2.2.2.1), (hGW6_9_0_7.cell HS6.out.2.2.2.2.2.2.2.2.2.2.2.2.2.2)⟩ (fun hHeld => ?_)
                clear hK K
                refine norm_ (a' := ?_) ?_ ?_
                rotate_left
                · show Act.put _ (some 60) _ = _
                  simp only [Act.put, List.setIfInBounds_toArray, List.set_cons_zero, List.set_cons_succ, i64_w, i32_w]
                  rfl
                exact norm_ (by simp only [putAll, Act.put, List.setIfInBounds_toArray, List.set_cons_zero, List.set_cons_succ]) (hCont (.slice (some ⟨W6_9.heap.size, 0, none⟩) 0 0, v60, .slice (some ⟨W6.heap.size, 0, none⟩) 1 1) _ ⟨hGW6_9_0_7, hOW6_9_0_7, hRW6_9_0_7⟩)
            rintro ⟨u53, u60, u62⟩ W7 ⟨hF7, hO7, hR7⟩
            dsimp only at hO7 hR7
            have hHeld := (⟨hF7.cell HS6.out.1, hF7.cell HS6.out.2.1, hF7.cell HS6.out.2.2.1, hF7.cell HS6.out.2.2.2.1, hF7.cell HS6.out.2.2.2.2.1, hF7.cell HS6.out.2.2.2.2.2.1, hF7.cell HS6.out.2.2.2.2.2.2.1, hF7.cell HS6.out.2.2.2.2.2.2.2.1, hF7.cell HS6.out.2.2.2.2.2.2.2.2.1, hF7.cell HS6.out.2.2.2.2.2.2.2.2.2.1, hF7.cell HS6.out.2.2.2.2.2.2.2.2.2.2.1, hF7.cell HS6.out.2.2.2.2.2.2.2.2.2.2.2.1, hF7.cell HS6.out.2.2.2.2.2.2.2.2.2.2.2.2.1, hF7.cell HS6.out.2.2.2.2.2.2.2.2.2.2.2.2.2.1, hF7.cell HS6.out.2.2.2.2.2.2.2.2.2.2.2.2.2.2⟩ : W7.cell? ⟨D, 0, none⟩ = some (.slice none dl.length 0) ∧ W7.cell? ⟨X, 0, none⟩ = some (.int .u16 ix) ∧ W7.cell? ⟨X, 1, none⟩ = some (.int .u8 sub) ∧ W7.cell? ⟨X, 2, none⟩ = some (.int .i64 acc) ∧ W7.cell? ⟨X, 3, none⟩ = some (.bool mp) ∧ W7.cell? ⟨X, 4, none⟩ = some (.bool lim) ∧ W7.cell? ⟨X, 5, none⟩ = some (.int .i64 t1) ∧ W7.cell? ⟨X, 6, none⟩ = some (.int .u64 n1) ∧ W7.cell? ⟨X, 7, none⟩ = some (.string b1) ∧ W7.cell? ⟨X, 8, none⟩ = some (.int .i64 t2) ∧ W7.cell? ⟨X, 9, none⟩ = some (.int .u64 n2) ∧ W7.cell? ⟨X, 10, none⟩ = some (.string b2) ∧ W7.cell? ⟨X, 11, none⟩ = some (.int .i64 p1) ∧ W7.cell? ⟨X, 12, none⟩ = some (.int .u64 p2) ∧ W7.cell? ⟨X, 13, none⟩ = some (.string p3))
            refine norm_ (a' := ?_) ?_ ?_
            rotate_left
            · simp only [putAll, Act.put, List.setIfInBounds_toArray, List.set_cons_zero, List.set_cons_succ]
              rfl
            refine one_ (i := 10) (N := some 63) #[true, true, true, true, true, true, true, true, true, true, true, false] rfl rfl (one_of HT_.out (by kernel_rfl)) (by decide) (fun K hK => ?_)
            refine step_append_rd _ (by rfl) (.tmp 60) (.tmp 62) _ (by rfl) W6.heap.size 46 i0 _ 14 120 Tryz.underlying22 hi0 hiz0 hiz1 hiz2 rfl (by omega) u60 (0 + 0) ([] ++ ((dl.map E.cells).flatten.take (0 * 14))) (by rfl) hO7 u62 1 [.int .u16 ix, .int .u8 sub, .int .i64 acc, .bool mp, .bool lim, .int .i64 t1, .int .u64 n1, .string b1, .int .i64 t2, .int .u64 n2, .string b2, .int .i64 p1, .int .u64 p2, .string p3] (by rfl) hR7 (by simp [Value.oneCell']) (by simp only [maxLen]; omega) (by omega) (by have := hF7.size; omega) ?_
            intro v63 W8 hO8 hg8
            have hF8 : Fr W6 W8 := Fr.grown hF7 hg8 (fun r hr => (hO7.lt r hr).1)
            refine hK.out _ _ ⟨(hF8.cell HS6.out.1), (hF8.cell HS6.out.2.1), (hF8.cell HS6.out.2.2.1), (hF8.cell HS6.out.2.2.2.1), (hF8.cell HS6.out.2.2.2.2.1), (hF8.cell HS6.out.2.2.2.2.2.1), (hF8.cell HS6.out.2.2.2.2.2.2.1), (hF8.cell HS6.out.2.2.2.2.2.2.2.1), (hF8.cell HS6.out.2.2.2.2.2.2.2.2.1), (hF8.cell HS6.out.2.2.2.2.2.2.2.2.2.1), (hF8.cell HS6.out.2.2.2.2.2.2.2.2.2.2.1), (hF8.cell HS6.out.2.2.2.2.2.2.2.2.2.2.2.1), (hF8.cell HS6.out.2.2.2.2.2.2.2.2.2.2.2.2.1), (hF8.cell HS6.out.2.2.2.2.2.2.2.2.2.2.2.2.2.1), (hF8.cell HS6.out.2.2.2.2.2.2.2.2.2.2.2.2.2.2)⟩ (fun hHeld => ?_)
            clear hK K
            refine norm_ (a' := ?_) ?_ ?_
            rotate_left
            · show Act.put _ (some 63) _ = _
              simp only [Act.put, List.setIfInBounds_toArray, List.set_cons_zero, List.set_cons_succ, i64_w, i32_w]
              rfl
            refine pure_ (i := 11) (N := some 9) (v := ?_) (a' := ?_) #[true, true, true, true, true, true, true, true, true, true, true, true] rfl rfl (any_of HT_.out (by kernel_rfl)) (fun _ _ _ h => h) (Or.inl ⟨by rfl, ?_⟩) ?_ ?_
            rotate_left
            · intro w'
              go_simp
              with_reducible rfl
            rotate_left
            · simp only [Act.put, List.setIfInBounds_toArray, List.set_cons_zero, List.set_cons_succ, i64_w, i32_w]
              rfl
            refine done_ (done_of HT_.out (by kernel_rfl)) ?_

            have hD8 := hF8.at_ (hF6.at_ HD3.out)
            have z8 := hF8.size
            have hne8 : some D ≠ v63.ownBlock := fun hh => by have := (hO8.lt D hh.symm).1; omega
            have e8 := cell0 hD8
            have f8 := froz2 hD8 0
            go_wp2_with (at_builtin; refine wpList_append_rd _ (by rfl) (.tmp 65) (.tmp 71) _ (by rfl) W6.heap.size 46 i0 _ 14 120 Tryz.underlying22 hi0 hiz0 hiz1 hiz2 rfl (by omega) v63 (0 + 0 + 1) ([] ++ ((dl.map E.cells).flatten.take (0 * 14)) ++ [.int .u16 ix, .int .u8 sub, .int .i64 acc, .bool mp, .bool lim, .int .i64 t1, .int .u64 n1, .string b1, .int .i64 t2, .int .u64 n2, .string b2, .int .i64 p1, .int .u64 p2, .string p3]) (by rfl) hO8 (_) 0 [] (by rfl) (Rd.empty _ _ _ _ (by have := HCM.out; omega)) (by simp) (by simp only [maxLen]; omega) (by omega) (by omega) ?_; intro v72 W9 hO9 hg9; obtain ⟨g9, c9, hv9, _⟩ := World.ownsRow.form hO9 (by omega); subst hv9; have hF9 : Fr W6 W9 := Fr.grown hF8 hg9 (fun r hr => (hO8.lt r hr).1); have hD9 := hF9.at_ (hF6.at_ HD3.out); have e9 := cell0 hD9; have f9 := froz2 hD9 0)
            go_roundw
            case rel =>
              have hne9 := fun hh => (show False by have := (hO9.lt D hh).1; omega)
              have hcs0 : [] ++ ((dl.map E.cells).flatten.take (0 * 14)) ++ [.int .u16 ix, .int .u8 sub, .int .i64 acc, .bool mp, .bool lim, .int .i64 t1, .int .u64 n1, .string b1, .int .i64 t2, .int .u64 n2, .string b2, .int .i64 p1, .int .u64 p2, .string p3] ++ (dl.map E.cells).flatten.drop (0 * 14) = ((insE x dl).map E.cells).flatten := by
                rw [insE_at x dl 0 hm (fun j y hj hy => by have h1 := hz.out j y hj hy; have h2 := HXP.out; omega) (fun y hy h => by have := HST.out y hy; omega), List.map_append, List.flatten_append, List.map_cons, List.flatten_cons, flat_take E.cells 14 E.len dl 0 hm, flat_drop E.cells 14 E.len dl 0 hm, HXE.out]
                simp [E.cells]
              have hz0 : (dl.map E.cells).flatten.drop (0 * 14) = [] := List.drop_of_length_le (by rw [flat_len E.cells 14 E.len]; omega)
              rw [hz0] at hcs0
              have hcs := hcs0
              have hnl2 : 0 + 0 + 1 + 0 = (insE x dl).length := by rw [insE_len]; omega
              have hO9' : W9.ownsRow W6.heap.size 46 14 (.slice (some ⟨g9, 0, none⟩) (0 + 1) c9) (insE x dl).length ((insE x dl).map E.cells).flatten := by
                rw [← hcs, ← hnl2]
                simpa only [Nat.zero_add, Nat.add_zero] using hO9
              refine ⟨k + 1, _, insE x dl, by omega, by go_num, ?_, Lib.hid (set0 hD9 _), Lib.hid ?_, Lib.hid HIT.out.symm⟩
              · exact Fr.set (((hF.trans hFW).trans hF6).trans hF9) hwD _
              · exact ownsRow_mono (ownsRow_set hO9' ⟨D, 0, none⟩ _ hne9) (by omega)
            case measure =>
              show l.length - ((k : Int) + 1).toNat < l.length - ((k : Int)).toNat
              omega
          · subst hA
            have q1 : m ≤ cap := by omega
            have q2 : (m : Int) ≤ (cap : Int) := by omega
            have q3 : ¬ cap = m := by omega
            have q4 : (m : Int) ≤ (dl.length : Int) := by omega
            have cD1 := cell0 (hFm.at_ HD3.out)
            go_wp2_with fail
            refine start_ (n := 20) (S := fun w' => w'.cell? ⟨D, 0, none⟩ = some (.slice (some ⟨g, 0, none⟩) dl.length cap)) (ds := []) #[false, false, false, false, false, false, false, false, false, false, false, false, false, false, false, false, false, false, false, false] (by kernel_rfl) rfl rfl (cD1) (fun hHeld => ?_)
            refine with_tabW Rnew10.tab Rnew10.bits (fun HT_ HW_ => ?_)
            refine pure_ (i := 0) (N := some 31) (v := ?_) (a' := ?_) #[true, false, false, false, false, false, false, false, false, false, false, false, false, false, false, false, false, false, false, false] rfl rfl (any_of HT_.out (by kernel_rfl)) (fun _ _ _ h => h) (Or.inl ⟨by rfl, ?_⟩) ?_ ?_
            rotate_left
            · intro w'
              go_simp
              with_reducible rfl
            rotate_left
            · simp only [Act.put, List.setIfInBounds_toArray, List.set_cons_zero, List.set_cons_succ, i64_w, i32_w]
              rfl
            refine pure_ (i := 1) (N := some 32) (v := ?_) (a' := ?_) #[true, true, false, false, false, false, false, false, false, false, false, false, false, false, false, false, false, false, false, false] rfl rfl (any_of HT_.out (by kernel_rfl)) (fun _ _ _ h => h) (Or.inl ⟨by rfl, ?_⟩) ?_ ?_
            rotate_left
            · intro w'
              go_simp
              with_reducible rfl
            rotate_left
            · simp only [Act.put, List.setIfInBounds_toArray, List.set_cons_zero, List.set_cons_succ, i64_w, i32_w]
              rfl
            refine pure_ (i := 2) (N := some 33) (v := ?_) (a' := ?_) #[true, true, true, false, false, false, false, false, false, false, false, false, false, false, false, false, false, false, false, false] rfl rfl (any_of HT_.out (by kernel_rfl)) (fun _ _ _ h => h) (Or.inl ⟨by rfl, ?_⟩) ?_ ?_
            rotate_left
            · intro w'
              go_simp
              with_reducible rfl
            rotate_left
            · simp only [Act.put, List.setIfInBounds_toArray, List.set_cons_zero, List.set_cons_succ, i64_w, i32_w]
              rfl
            refine pure_ (i := 3) (N := some 34) (v := ?_) (a' := ?_) #[true, true, true, true, false, false, false, false, false, false, false, false, false, false, false, false, false, false, false, false] rfl rfl (any_of HT_.out (by kernel_rfl)) (fun _ _ _ h => h) (Or.inl ⟨by rfl, ?_⟩) ?_ ?_
            rotate_left
            · intro w'
              go_simp
              with_reducible rfl
            rotate_left
            · simp only [Act.put, List.setIfInBounds_toArray, List.set_cons_zero, List.set_cons_succ, i64_w, i32_w]
              rfl
            refine take_ (i := 4) (N := some 35) (v := ?_) (a' := ?_) #[true, true, true, true, true, false, false, false, false, false, false, false, false, false, false, false, false, false, false, false] rfl rfl (take_ofW HT_.out HW_.out (by kernel_rfl)) (fun _ _ _ h => h) (Or.inl ⟨by rfl, ?_⟩) hHeld ?_ ?_
            rotate_left
            · intro w' s0
              go_simp
              with_reducible rfl
            rotate_left
            · simp only [Act.put, List.setIfInBounds_toArray, List.set_cons_zero, List.set_cons_succ, i64_w, i32_w]
              rfl
            refine pure_ (i := 5) (N := some 36) (v := ?_) (a' := ?_) #[true, true, true, true, true, true, false, false, false, false, false, false, false, false, false, false, false, false, false, false] rfl rfl (any_of HT_.out (by kernel_rfl)) (fun _ _ _ h => h) (Or.inl ⟨by rfl, ?_⟩) ?_ ?_
            rotate_left
            · intro w'
              go_simp
              with_reducible rfl
            rotate_left
            · simp only [Act.put, List.setIfInBounds_toArray, List.set_cons_zero, List.set_cons_succ, i64_w, i32_w]
              rfl
            refine pure_ (i := 6) (N := some 37) (v := ?_) (a' := ?_) #[true, true, true, true, true, true, true, false, false, false, false, false, false, false, false, false, false, false, false, false] rfl rfl (any_of HT_.out (by kernel_rfl)) (fun _ _ _ h => h) (Or.inl ⟨by rfl, ?_⟩) ?_ ?_
            rotate_left
            · intro w'
              go_simp
              with_reducible rfl
            rotate_left
            · simp only [Act.put, List.setIfInBounds_toArray, List.set_cons_zero, List.set_cons_succ, i64_w, i32_w]
              rfl
            refine pure_ (i := 7) (N := some 38) (v := ?_) (a' := ?_) #[true, true, true, true, true, true, true, true, false, false, false, false, false, false, false, false, false, false, false, false] rfl rfl (any_of HT_.out (by kernel_rfl)) (fun _ _ _ h => h) (Or.inl ⟨by rfl, ?_⟩) ?_ ?_
            rotate_left
            · intro w'
              go_simp
              with_reducible rfl
            rotate_left
            · simp only [Act.put, List.setIfInBounds_toArray, List.set_cons_zero, List.set_cons_succ, i64_w, i32_w]
              rfl
            refine pure_ (i := 8) (N := some 39) (v := undef) (a' := ?_) #[true, true, true, true, true, true, true, true, true, false, false, false, false, false, false, false, false, false, false, false] rfl rfl (any_of HT_.out (by kernel_rfl)) (fun _ _ _ h => h) (Or.inr ⟨by rfl, rfl⟩) ?_ ?_
            rotate_left
            · simp only [Act.put, List.setIfInBounds_toArray, List.set_cons_zero, List.set_cons_succ, i64_w, i32_w]
              rfl
            refine pure_ (i := 9) (N := some 40) (v := undef) (a' := ?_) #[true, true, true, true, true, true, true, true, true, true, false, false, false, false, false, false, false, false, false, false] rfl rfl (any_of HT_.out (by kernel_rfl)) (fun _ _ _ h => h) (Or.inr ⟨by rfl, rfl⟩) ?_ ?_
            rotate_left
            · simp only [Act.put, List.setIfInBounds_toArray, List.set_cons_zero, List.set_cons_succ, i64_w, i32_w]
              rfl
            refine pure_ (i := 10) (N := some 41) (v := undef) (a' := ?_) #[true, true, true, true, true, true, true, true, true, true, true, false, false, false, false, false, false, false, false, false] rfl rfl (any_of HT_.out (by kernel_rfl)) (fun _ _ _ h => h) (Or.inr ⟨by rfl, rfl⟩) ?_ ?_
            rotate_left
            · simp only [Act.put, List.setIfInBounds_toArray, List.set_cons_zero, List.set_cons_succ, i64_w, i32_w]
              rfl
            refine pure_ (i := 11) (N := some 42) (v := undef) (a' := ?_) #[true, true, true, true, true, true, true, true, true, true, true, true, false, false, false, false, false, false, false, false] rfl rfl (any_of HT_.out (by kernel_rfl)) (fun _ _ _ h => h) (Or.inr ⟨by rfl, rfl⟩) ?_ ?_
            rotate_left
            · simp only [Act.put, List.setIfInBounds_toArray, List.set_cons_zero, List.set_cons_succ, i64_w, i32_w]
              rfl
            refine pure_ (i := 12) (N := some 43) (v := undef) (a' := ?_) #[true, true, true, true, true, true, true, true, true, true, true, true, true, false, false, false, false, false, false, false] rfl rfl (any_of HT_.out (by kernel_rfl)) (fun _ _ _ h => h) (Or.inr ⟨by rfl, rfl⟩) ?_ ?_
            rotate_left
            · simp only [Act.put, List.setIfInBounds_toArray, List.set_cons_zero, List.set_cons_succ, i64_w, i32_w]
              rfl
            refine pure_ (i := 13) (N := some 44) (v := undef) (a' := ?_) #[true, true, true, true, true, true, true, true, true, true, true, true, true, true, false, false, false, false, false, false] rfl rfl (any_of HT_.out (by kernel_rfl)) (fun _ _ _ h => h) (Or.inr ⟨by rfl, rfl⟩) ?_ ?_
            rotate_left
            · simp only [Act.put, List.setIfInBounds_toArray, List.set_cons_zero, List.set_cons_succ, i64_w, i32_w]
              rfl
            refine pure_ (i := 14) (N := some 45) (v := undef) (a' := ?_) #[true, true, true, true, true, true, true, true, true, true, true, true, true, true, true, false, false, false, false, false] rfl rfl (any_of HT_.out (by kernel_rfl)) (fun _ _ _ h => h) (Or.inr ⟨by rfl, rfl⟩) ?_ ?_
            rotate_left
            · simp only [Act.put, List.setIfInBounds_toArray, List.set_cons_zero, List.set_cons_succ, i64_w, i32_w]
              rfl
            refine pure_ (i := 15) (N := some 46) (v := undef) (a' := ?_) #[true, true, true, true, true, true, true, true, true, true, true, true, true, true, true, true, false, false, false, false] rfl rfl (any_of HT_.out (by kernel_rfl)) (fun _ _ _ h => h) (Or.inr ⟨by rfl, rfl⟩) ?_ ?_
            rotate_left
            · simp only [Act.put, List.setIfInBounds_toArray, List.set_cons_zero, List.set_cons_succ, i64_w, i32_w]
              rfl
            refine pure_ (i := 16) (N := some 47) (v := undef) (a' := ?_) #[true, true, true, true, true, true, true, true, true, true, true, true, true, true, true, true, true, false, false, false] rfl rfl (any_of HT_.out (by kernel_rfl)) (fun _ _ _ h => h) (Or.inr ⟨by rfl, rfl⟩) ?_ ?_
            rotate_left
            · simp only [Act.put, List.setIfInBounds_toArray, List.set_cons_zero, List.set_cons_succ, i64_w, i32_w]
              rfl
            refine pure_ (i := 17) (N := some 48) (v := undef) (a' := ?_) #[true, true, true, true, true, true, true, true, true, true, true, true, true, true, true, true, true, true, false, false] rfl rfl (any_of HT_.out (by kernel_rfl)) (fun _ _ _ h => h) (Or.inr ⟨by rfl, rfl⟩) ?_ ?_
            rotate_left
            · simp only [Act.put, List.setIfInBounds_toArray, List.set_cons_zero, List.set_cons_succ, i64_w, i32_w]
              rfl
            refine pure_ (i := 18) (N := some 49) (v := undef) (a' := ?_) #[true, true, true, true, true, true, true, true, true, true, true, true, true, true, true, true, true, true, true, false] rfl rfl (any_of HT_.out (by kernel_rfl)) (fun _ _ _ h => h) (Or.inr ⟨by rfl, rfl⟩) ?_ ?_
            rotate_left
            · simp only [Act.put, List.setIfInBounds_toArray, List.set_cons_zero, List.set_cons_succ, i64_w, i32_w]
              rfl
            refine pure_ (i := 19) (N := some 50) (v := ?_) (a' := ?_) #[true, true, true, true, true, true, true, true, true, true, true, true, true, true, true, true, true, true, true, true] rfl rfl (any_of HT_.out (by kernel_rfl)) (fun _ _ _ h => h) (Or.inl ⟨by rfl, ?_⟩) ?_ ?_
            rotate_left
            · intro w'
              go_simp
              with_reducible rfl
            rotate_left
            · simp only [Act.put, List.setIfInBounds_toArray, List.set_cons_zero, List.set_cons_succ, i64_w, i32_w]
              rfl
            refine done_ (done_of HT_.out (by kernel_rfl)) ?_

            go_wp2_with fail
            generalize hW5 : World.drew wr = W5
            have hF5 : Fr W3 W5 := by rw [← hW5]; exact hFm.drew
            clear hW5 cD1
            clear cD hpx x0 x1 x2 x3 x4 x5 x6 x7 x8 x9 x10 x11 x12 x13
            refine start_ (n := 12) (S := fun w' => w'.cell? ⟨D, 0, none⟩ = some (.slice (some ⟨g, 0, none⟩) dl.length cap) ∧ w'.cell? ⟨X, 0, none⟩ = some (.int .u16 ix) ∧ w'.cell? ⟨X, 1, none⟩ = some (.int .u8 sub) ∧ w'.cell? ⟨X, 2, none⟩ = some (.int .i64 acc) ∧ w'.cell? ⟨X, 3, none⟩ = some (.bool mp) ∧ w'.cell? ⟨X, 4, none⟩ = some (.bool lim) ∧ w'.cell? ⟨X, 5, none⟩ = some (.int .i64 t1) ∧ w'.cell? ⟨X, 6, none⟩ = some (.int .u64 n1) ∧ w'.cell? ⟨X, 7, none⟩ = some (.string b1) ∧ w'.cell? ⟨X, 8, none⟩ = some (.int .i64 t2) ∧ w'.cell? ⟨X, 9, none⟩ = some (.int .u64 n2) ∧ w'.cell? ⟨X, 10, none⟩ = some (.string b2) ∧ w'.cell? ⟨X, 11, none⟩ = some (.int .i64 p1) ∧ w'.cell? ⟨X, 12, none⟩ = some (.int .u64 p2) ∧ w'.cell? ⟨X, 13, none⟩ = some (.string p3)) (ds := []) #[false, false, false, false, false, false, false, false, false, false, false, false] (by kernel_rfl) rfl rfl ⟨(cell0 (hF5.drew.at_ HD3.out)), (hF5.drew.cell m0), (hF5.drew.cell m1), (hF5.drew.cell m2), (hF5.drew.cell m3), (hF5.drew.cell m4), (hF5.drew.cell m5), (hF5.drew.cell m6), (hF5.drew.cell m7), (hF5.drew.cell m8), (hF5.drew.cell m9), (hF5.drew.cell m10), (hF5.drew.cell m11), (hF5.drew.cell m12), (hF5.drew.cell m13)⟩ (fun hHeld => ?_)
            refine with_tabW Rnew12.tab Rnew12.bits (fun HT_ HW_ => ?_)
            generalize hW6 : W5.drew = W6 at hHeld ⊢
            have hF6 : Fr W3 W6 := by rw [← hW6]; exact hF5.drew
            have HS6 := Lib.hid hHeld
            clear hW6
            have hz6 := hF6.size
            have hRm : Rd W6 14 (.slice (some ⟨g, 0, none⟩) m cap) m ((dl.map E.cells).flatten.take (m * 14)) := (Rd.take hR3.out hm).fr hF6
            have hones : ∀ x ∈ ((dl.map E.cells).flatten.take (m * 14)), x.oneCell' = true := fun x hx => ecs_one dl x (List.mem_of_mem_take hx)
            obtain ⟨i0, hi0, hiz0, hiz1, hiz2⟩ := info_parts infoEntry
            refine pure_ (i := 1) (N := some 54) (v := ?_) (a' := ?_) #[false, true, false, false, false, false, false, false, false, false, false, false] rfl rfl (any_of HT_.out (by kernel_rfl)) (fun _ _ _ h => h) (Or.inl ⟨by rfl, ?_⟩) ?_ ?_
            rotate_left
            · intro w'
              go_simp
              with_reducible rfl
            rotate_left
            · simp only [Act.put, List.setIfInBounds_toArray, List.set_cons_zero, List.set_cons_succ, i64_w, i32_w]
              rfl
            refine pure_ (i := 2) (N := some 55) (v := ?_) (a' := ?_) #[false, true, true, false, false, false, false, false, false, false, false, false] rfl rfl (any_of HT_.out (by kernel_rfl)) (fun _ _ _ h => h) (Or.inl ⟨by rfl, ?_⟩) ?_ ?_
            rotate_left
            · intro w'
              go_simp
              with_reducible rfl
            rotate_left
            · simp only [Act.put, List.setIfInBounds_toArray, List.set_cons_zero, List.set_cons_succ, i64_w, i32_w]
              rfl
            refine pure_ (i := 3) (N := some 56) (v := ?_) (a' := ?_) #[false, true, true, true, false, false, false, false, false, false, false, false] rfl rfl (any_of HT_.out (by kernel_rfl)) (fun _ _ _ h => h) (Or.inl ⟨by rfl, ?_⟩) ?_ ?_
            rotate_left
            · intro w'
              go_simp
              with_reducible rfl
            rotate_left
            · simp only [Act.put, List.setIfInBounds_toArray, List.set_cons_zero, List.set_cons_succ, i64_w, i32_w]
              rfl
            refine pure_ (i := 5) (N := some 58) (v := ?_) (a' := ?_) #[false, true, true, true, false, true, false, false, false, false, false, false] rfl rfl (any_of HT_.out (by kernel_rfl)) (fun _ _ _ h => h) (Or.inl ⟨by rfl, ?_⟩) ?_ ?_
            rotate_left
            · intro w'
              go_simp
              with_reducible rfl
            rotate_left
            · simp only [Act.put, List.setIfInBounds_toArray, List.set_cons_zero, List.set_cons_succ, i64_w, i32_w]
              rfl
            refine take_ (i := 4) (N := some 57) (v := ?_) (a' := ?_) #[false, true, true, true, true, true, false, false, false, false, false, false] rfl rfl (take_ofW HT_.out HW_.out (by kernel_rfl)) (fun _ _ _ h => h) (Or.inl ⟨by rfl, ?_⟩) hHeld ?_ ?_
            rotate_left
            · rintro w' ⟨s0, s1, s2, s3, s4, s5, s6, s7, s8, s9, s10, s11, s12, s13, s14⟩
              go_simp
              with_reducible rfl
            rotate_left
            · simp only [Act.put, List.setIfInBounds_toArray, List.set_cons_zero, List.set_cons_succ, i64_w, i32_w]
              rfl
            refine pure_ (i := 6) (N := some 59) (v := ?_) (a' := ?_) #[false, true, true, true, true, true, true, false, false, false, false, false] rfl rfl (any_of HT_.out (by kernel_rfl)) (fun _ _ _ h => h) (Or.inl ⟨by rfl, ?_⟩) ?_ ?_
            rotate_left
            · intro w'
              go_simp
              with_reducible rfl
            rotate_left
            · simp only [Act.put, List.setIfInBounds_toArray, List.set_cons_zero, List.set_cons_succ, i64_w, i32_w]
              rfl
            refine take_ (i := 8) (N := some 61) (v := ?_) (a' := ?_) #[false, true, true, true, true, true, true, false, true, false, false, false] rfl rfl (take_ofW HT_.out HW_.out (by kernel_rfl)) (fun _ _ _ h => h) (Or.inl ⟨by rfl, ?_⟩) hHeld ?_ ?_
            rotate_left
            · rintro w' ⟨s0, s1, s2, s3, s4, s5, s6, s7, s8, s9, s10, s11, s12, s13, s14⟩
              go_simp
              with_reducible rfl
            rotate_left
            · simp only [Act.put, List.setIfInBounds_toArray, List.set_cons_zero, List.set_cons_succ, i64_w, i32_w]
              rfl
            refine join_ (σ := Value × Value × Value) 2 #[true, true, true, true, true, true, true, true, true, true, false, false] (fun s => [(53, s.1), (60, s.2.1), (62, s.2.2)]) (fun s w' => Fr W6 w' ∧ w'.ownsRow W6.heap.size 46 14 s.2.1 (0 + m) ([] ++ ((dl.map E.cells).flatten.take (m * 14))) ∧ Rd w' 14 s.2.2 1 [.int .u16 ix, .int .u8 sub, .int .i64 acc, .bool mp, .bool lim, .int .i64 t1, .int .u64 n1, .string b1, .int .i64 t2, .int .u64 n2, .string b2, .int .i64 p1, .int .u64 p2, .string p3]) ?_ ?_
            rotate_left
            · intro hCont
              refine two_ (i := 0) (j := 9) (Ni := some 53) (Nj := some 62) #[true, true, true, true, true, true, true, false, true, false, false, false] #[false, true, true, true, true, true, true, false, true, true, false, false] rfl rfl rfl rfl (two_of HT_.out (by kernel_rfl)) (by decide) (by decide) (fun K hK => ?_) (fun K hK => ?_)
              · skip
                refine value_ (w1 := W6.alloc (.cells #[] 46)) (v := .slice (some ⟨W6.heap.size, 0, none⟩) 0 0) (by rfl) rfl ?_ ?_
                · go_simp
                obtain ⟨W6_0, hNW6_0⟩ : ∃ q, q = W6.alloc (.cells #[] 46) := ⟨_, rfl⟩
                have hGW6_0 : Fr W6 W6_0 := by rw [hNW6_0]; exact Fr.alloc (Fr.refl W6) _
                have hAW6_0 : Fr W6 W6_0 := by rw [hNW6_0]; exact Fr.alloc (Fr.refl _) _
                have hsW6_0 : W6_0.heap.size = W6.heap.size + 1 := by rw [hNW6_0]; simp
                have hOW6_0 : W6_0.ownsRow W6.heap.size 46 14 (.slice (some ⟨W6.heap.size, 0, none⟩) 0 0) 0 [] := by rw [hNW6_0]; exact World.ownsRow_made _ #[] 0 (by omega) (by simp [maxLen]) (by simp)
                rw [← hNW6_0]
                clear hNW6_0
                refine hK.out _ _ ⟨(hGW6_0.cell HS6.out.1), (hGW6_0.cell HS6.out.2.1), (hGW6_0.cell HS6.out.2.2.1), (hGW6_0.cell HS6.out.2.2.2.1), (hGW6_0.cell HS6.out.2.2.2.2.1), (hGW6_0.cell HS6.out.2.2.2.2.2.1), (hGW6_0.cell HS6.out.2.2.2.2.2.2.1), (hGW6_0.cell HS6.out.2.2.2.2.2.2.2.1), (hGW6_0.cell HS6.out.2.2.2.2.2.2.2.2.1), (hGW6_0.cell HS6.out.2.2.2.2.2.2.2.2.2.1), (hGW6_0.cell HS6.out.2.2.2.2.2.2.2.2.2.2.1), (hGW6_0.cell HS6.out.2.2.2.2.2.2.2.2.2.2.2.1), (hGW6_0.cell HS6.out.2.2.2.2.2.2.2.2.2.2.2.2.1), (hGW6_0.cell HS6.out.2.2.2.2.2.2.2.2.2.2.2.2.2.1), (hGW6_0.cell HS6.out.2.2.2.2.2.2.2.2.2.2.2.2.2.2)⟩ (fun hHeld => ?_)
                clear hK K
                refine norm_ (a' := ?_) ?_ ?_
                rotate_left
                · show Act.put _ (some 53) _ = _
                  simp only [Act.put, List.setIfInBounds_toArray, List.set_cons_zero, List.set_cons_succ, i64_w, i32_w]
                  rfl
                refine two_ (i := 7) (j := 9) (Ni := some 60) (Nj := some 62) #[true, true, true, true, true, true, true, true, true, false, false, false] #[true, true, true, true, true, true, true, false, true, true, false, false] rfl rfl rfl rfl (two_of HT_.out (by kernel_rfl)) (by decide) (by decide) (fun K hK => ?_) (fun K hK => ?_)
                · skip
                  refine step_append_rd _ (by rfl) (.tmp 53) (.tmp 59) _ (by rfl) W6.heap.size 46 i0 _ 14 120 Tryz.underlying22 hi0 hiz0 hiz1 hiz2 rfl (by omega) (.slice (some ⟨W6.heap.size, 0, none⟩) 0 0) 0 [] (by rfl) hOW6_0 (.slice (some ⟨g, 0, none⟩) m cap) m ((dl.map E.cells).flatten.take (m * 14)) (by rfl) (Rd.fr hRm hGW6_0) hones (by simp only [maxLen]; omega) (by omega) (by omega) ?_
                  intro v60 W6_0_7 hOW6_0_7 hgW6_0_7
                  have hGW6_0_7 : Fr W6 W6_0_7 := Fr.grown hGW6_0 hgW6_0_7 (fun r hr => by simp [Value.ownBlock] at hr; omega)
                  have hzW6_0_7 := hgW6_0_7.size
                  refine hK.out _ _ ⟨(hGW6_0_7.cell HS6.out.1), (hGW6_0_7.cell HS6.out.2.1), (hGW6_0_7.cell HS6.out.2.2.1), (hGW6_0_7.cell HS6.out.2.2.2.1), (hGW6_0_7.cell HS6.out.2.2.2.2.1), (hGW6_0_7.cell HS6.out.2.2.2.2.2.1), (hGW6_0_7.cell HS6.out.2.2.2.2.2.2.1), (hGW6_0_7.cell HS6.out.2.2.2.2.2.2.2.1), (hGW6_0_7.cell HS6.out.2.2.2.2.2.2.2.2.1), (hGW6_0_7.cell HS6.out.2.2.2.2.2.2.2.2.2.1), (hGW6_0_7.cell HS6.out.2.2.2.2.2.2.2.2.2.2.1), (hGW6_0_7.cell HS6.out.2.2.2.2.2.2.2.2.2.2.2.1), (hGW6_0_7.cell HS6.out.2.2.2.2.2.2.2.2.2.2.2.2.1), (hGW6_0_7.cell HS6.out.2.2.2.2.2.2.2.2.2.2.2.2.2.1), (hGW6_0_7.cell HS6.out.2.2.2.2.2.2.2.2.2.2.2.2.2.2)⟩ (fun hHeld => ?_)
                  clear hK K
                  refine norm_ (a' := ?_) ?_ ?_
                  rotate_left
                  · show Act.put _ (some 60) _ = _
                    simp only [Act.put, List.setIfInBounds_toArray, List.set_cons_zero, List.set_cons_succ, i64_w, i32_w]
                    rfl
                  refine one_ (i := 9) (N := some 62) #[true, true, true, true, true, true, true, true, true, true, false, false] rfl rfl (one_of HT_.out (by kernel_rfl)) (by decide) (fun K hK => ?_)
                  refine value_ (w1 := W6_0_7.alloc (.cells #[.int .u16 ix, .int .u8 sub, .int .i64 acc, .bool mp, .bool lim, .int .i64 t1, .int .u64 n1, .string b1, .int .i64 t2, .int .u64 n2, .string b2, .int .i64 p1, .int .u64 p2, .string p3] 46)) (v := .slice (some ⟨W6_0_7.heap.size, 0, none⟩) 1 1) (by rfl) rfl ?_ ?_
                  · go_simp
                  obtain ⟨W6_0_7_9, hNW6_0_7_9⟩ : ∃ q, q = W6_0_7.alloc (.cells #[.int .u16 ix, .int .u8 sub, .int .i64 acc, .bool mp, .bool lim, .int .i64 t1, .int .u64 n1, .string b1, .int .i64 t2, .int .u64 n2, .string b2, .int .i64 p1, .int .u64 p2, .string p3] 46) := ⟨_, rfl⟩
                  have hGW6_0_7_9 : Fr W6 W6_0_7_9 := by rw [hNW6_0_7_9]; exact Fr.alloc (hGW6_0_7) _
                  have hAW6_0_7_9 : Fr W6_0_7 W6_0_7_9 := by rw [hNW6_0_7_9]; exact Fr.alloc (Fr.refl _) _
                  have hsW6_0_7_9 : W6_0_7_9.heap.size = W6_0_7.heap.size + 1 := by rw [hNW6_0_7_9]; simp
                  have hRW6_0_7_9 : Rd W6_0_7_9 14 (.slice (some ⟨W6_0_7.heap.size, 0, none⟩) 1 1) 1 [.int .u16 ix, .int .u8 sub, .int .i64 acc, .bool mp, .bool lim, .int .i64 t1, .int .u64 n1, .string b1, .int .i64 t2, .int .u64 n2, .string b2, .int .i64 p1, .int .u64 p2, .string p3] := by rw [hNW6_0_7_9]; exact Rd.of_block (heap_alloc_new _ _) (Nat.le_refl _) (by omega) (by simp) (List.prefix_refl _)
                  have hQW6_0_7_9 := ownsRow_fr hOW6_0_7 hAW6_0_7_9
                  rw [← hNW6_0_7_9]
                  clear hNW6_0_7_9
                  refine hK.out _ _ ⟨(hGW6_0_7_9.cell HS6.out.1), (hGW6_0_7_9.cell HS6.out.2.1), (hGW6_0_7_9.cell HS6.out.2.2.1), (hGW6_0_7_9.cell HS6.out.2.2.2.1), (hGW6_0_7_9.cell HS6.out.2.2.2.2.1), (hGW6_0_7_9.cell HS6.out.2.2.2.2.2.1), (hGW6_0_7_9.cell HS6.out.2.2.2.2.2.2.1), (hGW6_0_7_9.cell HS6.out.2.2.2.2.2.2.2.1), (hGW6_0_7_9.cell HS6.out.2.2.2.2.2.2.2.2.1), (hGW6_0_7_9.cell HS6.out.2.2.2.2.2.2.2.2.2.1), (hGW6_0_7_9.cell HS6.out.2.2.2.2.2.2.2.2.2.2.1), (hGW6_0_7_9.cell HS6.out.2.2.2.2.2.2.2.2.2.2.2.1), (hGW6_0_7_9.cell HS6.out.2.2.2.2.2.2.2.2.2.2.2.2.1), (hGW6_0_7_9.cell HS6.out.2.2.2.2.2.2.2.2.2.2.2.2.2.1), (hGW6_0_7_9.cell HS6.out.2.2.2.2.2.2.2.2.2.2.2.2.2.2)⟩ (fun hHeld => ?_)
                  clear hK K
                  refine norm_ (a' := ?_) ?_ ?_
                  rotate_left
                  · show Act.put _ (some 62) _ = _
                    simp only [Act.put, List.setIfInBounds_toArray, List.set_cons_zero, List.set_cons_succ, i64_w, i32_w]
                    rfl
                  exact norm_ (by simp only [putAll, Act.put, List.setIfInBounds_toArray, List.set_cons_zero, List.set_cons_succ]) (hCont (.slice (some ⟨W6.heap.size, 0, none⟩) 0 0, v60, .slice (some ⟨W6_0_7.heap.size, 0, none⟩) 1 1) _ ⟨hGW6_0_7_9, hQW6_0_7_9, hRW6_0_7_9⟩)
                · skip
                  refine value_ (w1 := W6_0.alloc (.cells #[.int .u16 ix, .int .u8 sub, .int .i64 acc, .bool mp, .bool lim, .int .i64 t1, .int .u64 n1, .string b1, .int .i64 t2, .int .u64 n2, .string b2, .int .i64 p1, .int .u64 p2, .string p3] 46)) (v := .slice (some ⟨W6_0.heap.size, 0, none⟩) 1 1) (by rfl) rfl ?_ ?_
                  · go_simp
                  obtain ⟨W6_0_9, hNW6_0_9⟩ : ∃ q, q = W6_0.alloc (.cells #[.int .u16 ix, .int .u8 sub, .int .i64 acc, .bool mp, .bool lim, .int .i64 t1, .int .u64 n1, .string b1, .int .i64 t2, .int .u64 n2, .string b2, .int .i64 p1, .int .u64 p2, .string p3] 46) := ⟨_, rfl⟩
                  have hGW6_0_9 : Fr W6 W6_0_9 := by rw [hNW6_0_9]; exact Fr.alloc (hGW6_0) _
                  have hAW6_0_9 : Fr W6_0 W6_0_9 := by rw [hNW6_0_9]; exact Fr.alloc (Fr.refl _) _
                  have hsW6_0_9 : W6_0_9.heap.size = W6_0.heap.size + 1 := by rw [hNW6_0_9]; simp
                  have hRW6_0_9 : Rd W6_0_9 14 (.slice (some ⟨W6_0.heap.size, 0, none⟩) 1 1) 1 [.int .u16 ix, .int .u8 sub, .int .i64 acc, .bool mp, .bool lim, .int .i64 t1, .int .u64 n1, .string b1, .int .i64 t2, .int .u64 n2, .string b2, .int .i64 p1, .int .u64 p2, .string p3] := by rw [hNW6_0_9]; exact Rd.of_block (heap_alloc_new _ _) (Nat.le_refl _) (by omega) (by simp) (List.prefix_refl _)
                  rw [← hNW6_0_9]
                  clear hNW6_0_9
                  refine hK.out _ _ ⟨(hGW6_0_9.cell HS6.out.1), (hGW6_0_9.cell HS6.out.2.1), (hGW6_0_9.cell HS6.out.2.2.1), (hGW6_0_9.cell HS6.out.2.2.2.1), (hGW6_0_9.cell HS6.out.2.2.2.2.1), (hGW6_0_9.cell HS6.out.2.2.2.2.2.1), (hGW6_0_9.cell HS6.out.2.2.2.2.2.2.1), (hGW6_0_9.cell HS6.out.2.2.2.2.2.2.2.1), (hGW6_0_9.cell HS6.out.2.2.2.2.2.2.2.2.1), (hGW6_0_9.cell HS6.out.2.2.2.2.2.2.2.2.2.1), (hGW6_0_9.cell HS6.out.2.2.2.2.2.2.2.2.2.2.1), (hGW6_0_9.cell HS6.out.2.2.2.2.2.2.2.2.2.2.2.1), (hGW6_0_9.cell HS6.out.2.2.2.2.2.2.2.2.2.2.2.2.1), (hGW6_0_9.cell HS6.out.2.2.2.2.2.2.2.2.2.2.2.2.2.1), (hGW6_0_9.cell HS6.out.2.2.2.2.2.2.2.2.2.2.2.2.2.2)⟩ (fun hHeld => ?_)
                  clear hK K
                  refine norm_ (a' := ?_) ?_ ?_
                  rotate_left
                  · show Act.put _ (some 62) _ = _
                    simp only [Act.put, List.setIfInBounds_toArray, List.set_cons_zero, List.set_cons_succ, i64_w, i32_w]
                    rfl
                  refine one_ (i := 7) (N := some 60) #[true, true, true, true, true, true, true, true, true, true, false, false] rfl rfl (one_of HT_.out (by kernel_rfl)) (by decide) (fun K hK => ?_)
                  refine step_append_rd _ (by rfl) (.tmp 53) (.tmp 59) _ (by rfl) W6.heap.size 46 i0 _ 14 120 Tryz.underlying22 hi0 hiz0 hiz1 hiz2 rfl (by omega) (.slice (some ⟨W6.heap.size, 0, none⟩) 0 0) 0 [] (by rfl) (ownsRow_fr hOW6_0 hAW6_0_9) (.slice (some ⟨g, 0, none⟩) m cap) m ((dl.map E.cells).flatten.take (m * 14)) (by rfl) (Rd.fr hRm hGW6_0_9) hones (by simp only [maxLen]; omega) (by omega) (by omega) ?_
                  intro v60 W6_0_9_7 hOW6_0_9_7 hgW6_0_9_7
                  have hGW6_0_9_7 : Fr W6 W6_0_9_7 := Fr.grown hGW6_0_9 hgW6_0_9_7 (fun r hr => by simp [Value.ownBlock] at hr; omega)
                  have hzW6_0_9_7 := hgW6_0_9_7.size
                  have hRW6_0_9_7 := Rd.grown hRW6_0_9 hgW6_0_9_7 (fun g hg hh => by simp [Value.ownBlock] at hg hh; omega)
                  refine hK.out _ _ ⟨(hGW6_0_9_7.cell HS6.out.1), (hGW6_0_9_7.cell HS6.out.2.1), (hGW6_0_9_7.cell HS6.out.2.2.1), (hGW6_0_9_7.cell HS6.out.2.2.2.1), (hGW6_0_9_7.cell HS6.out.2.2.2.2.1), (hGW6_0_9_7.cell HS6.out.2.2.2.2.2.1), (hGW6_0_9_7.cell HS6.out.2.2.2.2.2.2.1), (hGW6_0_9_7.cell HS6.out.2.2.2.2.2.2.2.1), (hGW6_0_9_7.cell HS6.out.2.2.2.2.2.2.2.2.1), (hGW6_0_9_7.cell HS6.out.2.2.2.2.2.2.2.2.2.1), (hGW6_0_9_7.cell HS6.out.2.2.2.2.2.2.2.2.2.2.1), (hGW6_0_9_7.cell HS6.out.2.2.2.2.2.2.2.2.2.2.2.1), (hGW6_0_9_7.cell HS6.out.2.2.2.2.2.2.2.2.2.2.2.2.1), (hGW6_0_9_7.cell HS6.out.2.2.2.2.2.2.2.2.2.2.2.2.2.1), (hGW6_0_9_7.cell HS6.out.2.2.2.2.2.2.2.2.2.2.2.2.2.2)⟩ (fun hHeld => ?_)
                  clear hK K
                  refine norm_ (a' := ?_) ?_ ?_
                  rotate_left
                  · show Act.put _ (some 60) _ = _
                    simp only [Act.put, List.setIfInBounds_toArray, List.set_cons_zero, List.set_cons_succ, i64_w, i32_w]
                    rfl
                  exact norm_ (by simp only [putAll, Act.put, List.setIfInBounds_toArray, List.set_cons_zero, List.set_cons_succ]) (hCont (.slice (some ⟨W6.heap.size, 0, none⟩) 0 0, v60, .slice (some ⟨W6_0.heap.size, 0, none⟩) 1 1) _ ⟨hGW6_0_9_7, hOW6_0_9_7, hRW6_0_9_7⟩)
              · skip
                refine value_ (w1 := W6.alloc (.cells #[.int .u16 ix, .int .u8 sub, .int .i64 acc, .bool mp, .bool lim, .int .i64 t1, .int .u64 n1, .string b1, .int .i64 t2, .int .u64 n2, .string b2, .int .i64 p1, .int .u64 p2, .string p3] 46)) (v := .slice (some ⟨W6.heap.size, 0, none⟩) 1 1) (by rfl) rfl ?_ ?_
                · go_simp
                obtain ⟨W6_9, hNW6_9⟩ : ∃ q, q = W6.alloc (.cells #[.int .u16 ix, .int .u8 sub, .int .i64 acc, .bool mp, .bool lim, .int .i64 t1, .int .u64 n1, .string b1, .int .i64 t2, .int .u64 n2, .string b2, .int .i64 p1, .int .u64 p2, .string p3] 46) := ⟨_, rfl⟩
                have hGW6_9 : Fr W6 W6_9 := by rw [hNW6_9]; exact Fr.alloc (Fr.refl W6) _
                have hAW6_9 : Fr W6 W6_9 := by rw [hNW6_9]; exact Fr.alloc (Fr.refl _) _
                have hsW6_9 : W6_9.heap.size = W6.heap.size + 1 := by rw [hNW6_9]; simp
                have hRW6_9 : Rd W6_9 14 (.slice (some ⟨W6.heap.size, 0, none⟩) 1 1) 1 [.int .u16 ix, .int .u8 sub, .int .i64 acc, .bool mp, .bool lim, .int .i64 t1, .int .u64 n1, .string b1, .int .i64 t2, .int .u64 n2, .string b2, .int .i64 p1, .int .u64 p2, .string p3] := by rw [hNW6_9]; exact Rd.of_block (heap_alloc_new _ _) (Nat.le_refl _) (by omega) (by simp) (List.prefix_refl _)
                rw [← hNW6_9]
                clear hNW6_9
                refine hK.out _ _ ⟨(hGW6_9.cell HS6.out.1), (hGW6_9.cell HS6.out.2.1), (hGW6_9.cell HS6.out.2.2.1), (hGW6_9.cell HS6.out.2.2.2.1), (hGW6_9.cell HS6.out.2.2.2.2.1), (hGW6_9.cell HS6.out.2.2.2.2.2.1), (hGW6_9.cell HS6.out.2.2.2.2.2.2.1), (hGW6_9.cell HS6.out.2.2.2.2.2.2.2.1), (hGW6_9.cell HS6.out.2.2.2.2.2.2.2.2.1), (hGW6_9.cell HS6.out.2.2.2.2.2.2.2.2.2.1), (hGW6_9.cell HS6.out.2.2.2.2.2.2.2.2.2.2.1), (hGW6_9.cell HS6.out.2.2.2.2.2.2.2.2.2.2.2.1), (hGW6_9.cell HS6.out.2.2.2.2.2.2.2.2.2.2.2.2.1), (hGW6_9.cell HS6.out.2.2.2.2.2.2.2.2.2.2.2.2.2.1), (hGW6_9.cell HS6.out.2.2.2.2.2.2.2.2.2.2.2.2.2.2)⟩ (fun hHeld => ?_)
                clear hK K
                refine norm_ (a' := ?_) ?_ ?_
                rotate_left
                · show Act.put _ (some 62) _ = _
                  simp only [Act.put, List.setIfInBounds_toArray, List.set_cons_zero, List.set_cons_succ, i64_w, i32_w]
                  rfl
                refine one_ (i := 0) (N := some 53) #[true, true, true, true, true, true, true, false, true, true, false, false] rfl rfl (one_of HT_.out (by kernel_rfl)) (by decide) (fun K hK => ?_)
                refine value_ (w1 := W6_9.alloc (.cells #[] 46)) (v := .slice (some ⟨W6_9.heap.size, 0, none⟩) 0 0) (by rfl) rfl ?_ ?_
                · go_simp
                obtain ⟨W6_9_0, hNW6_9_0⟩ : ∃ q, q = W6_9.alloc (.cells #[] 46) := ⟨_, rfl⟩
                have hGW6_9_0 : Fr W6 W6_9_0 := by rw [hNW6_9_0]; exact Fr.alloc (hGW6_9) _
                have hAW6_9_0 : Fr W6_9 W6_9_0 := by rw [hNW6_9_0]; exact Fr.alloc (Fr.refl _) _
                have hsW6_9_0 : W6_9_0.heap.size = W6_9.heap.size + 1 := by rw [hNW6_9_0]; simp
                have hOW6_9_0 : W6_9_0.ownsRow W6.heap.size 46 14 (.slice (some ⟨W6_9.heap.size, 0, none⟩) 0 0) 0 [] := by rw [hNW6_9_0]; exact World.ownsRow_made _ #[] 0 (by omega) (by simp [maxLen]) (by simp)
                rw [← hNW6_9_0]
                clear hNW6_9_0
                refine hK.out _ _ ⟨(hGW6_9_0.cell HS6.out.1), (hGW6_9_0.cell HS6.out.2.1), (hGW6_9_0.cell HS6.out.2.2.1), (hGW6_9_0.cell HS6.out.2.2.2.1), (hGW6_9_0.cell HS6.out.2.2.2.2.1), (hGW6_9_0.cell HS6.out.2.2.2.2.2.1), (hGW6_9_0.cell HS6.out.2.2.2.2.2.2.1), (hGW6_9_0.cell HS6.out.2.2.2.2.2.2.2.1), (hGW6_9_0.cell HS6.out.2.2.2.2.2.2.2.2.1), (hGW6_9_0.cell HS6.out.2.2.2.2.2.2.2.2.2.1), (hGW6_9_0.cell HS6.out.2.2.2.2.2.2.2.2.2.2.1), (hGW6_9_0.cell HS6.out.2.2.2.2.2.2.2.2.2.2.2.1), (hGW6_9_0.cell HS6.out.2.2.2.2.2.2.2.2.2.2.2.2.1), (hGW6_9_0.cell HS6.out.2.2.2.2.2.2.2.2.2.2.2.2.2.1), (hGW6_9_0.cell HS6.out.2.2.2.2.2.2.2.2.2.2.2.2.2.2)⟩ (fun hHeld => ?_)
                clear hK K
                refine norm_ (a' := ?_) ?_ ?_
                rotate_left
                · show Act.put _ (some 53) _ = _
                  simp only [Act.put, List.setIfInBounds_toArray, List.set_cons_zero, List.set_cons_succ, i64_w, i32_w]
                  rfl
                refine one_ (i := 7) (N := some 60) #[true, true, true, true, true, true, true, true, true, true, false, false] rfl rfl (one_of HT_.out (by kernel_rfl)) (by decide) (fun K hK => ?_)
                refine step_append_rd _ (by rfl) (.tmp 53) (.tmp 59) _ (by rfl) W6.heap.size 46 i0 _ 14 120 Tryz.underlying22 hi0 hiz0 hiz1 hiz2 rfl (by omega) (.slice (some ⟨W6_9.heap.size, 0, none⟩) 0 0) 0 [] (by rfl) hOW6_9_0 (.slice (some ⟨g, 0, none⟩) m cap) m ((dl.map E.cells).flatten.take (m * 14)) (by rfl) (Rd.fr hRm hGW6_9_0) hones (by simp only [maxLen]; omega) (by omega) (by omega) ?_
                intro v60 W6_9_0_7 hOW6_9_0_7 hgW6_9_0_7
                have hGW6_9_0_7 : Fr W6 W6_9_0_7 := Fr.grown hGW6_9_0 hgW6_9_0_7 (fun r hr => by simp [Value.ownBlock] at hr; omega)
                have hzW6_9_0_7 := hgW6_9_0_7.size
                have hRW6_9_0_7 := Rd.grown (Rd.fr hRW6_9 hAW6_9_0) hgW6_9_0_7 (fun g hg hh => by simp [Value.ownBlock] at hg hh; omega)
                refine hK.out _ _ ⟨(hGW6_9_0_7.cell HS6.out.1), (hGW6_9_0_7.cell HS6.out.2.1), (hGW6_9_0_7.cell HS6.out.2.2.1), (hGW6_9_0_7.cell HS6.out.2.2.2.1), (hGW6_9_0_7.cell HS6.out.2.2.2.2.1), (hGW6_9_0_7.cell HS6.out.2.2.2.2.2.1), (hGW6_9_0_7.cell HS6.out.2.2.2.2.2.2.1), (hGW6_9_0_7.cell HS6.out.2.2.2.2.2.2.2.1), (hGW6_9_0_7.cell HS6.out.2.2.2.2.2.2.2.2.1), (hGW6_9_0_7.cell HS6.out.2.2.2.2.2.2.2.2.2.1), (hGW6_9_0_7.cell HS6.out.2.2.2.2.2.2.2.2.2.2.1), (hGW6_9_0_7.cell HS6.out.2.2.2.2.2.2.2.2.2.2.2.1), (hGW6_9_0_7.cell HS6.out.2.2.2.2.2.2.2.2.2.2.2.2.1), (hGW6_9_0_7.cell HS6.out.2.2.2.2.2.2.2.2.2.2.2.2.2.1), (hGW6_9_0_7.cell HS6.out.2.2.2.2.2.2.2.2.2.2.2.2.2.2)⟩ (fun hHeld => ?_)
                clear hK K
                refine norm_ (a' := ?_) ?_ ?_
                rotate_left
                · show Act.put _ (some 60) _ = _
                  simp only [Act.put, List.setIfInBounds_toArray, List.set_cons_zero, List.set_cons_succ, i64_w, i32_w]
                  rfl
                exact norm_ (by simp only [putAll, Act.put, List.setIfInBounds_toArray, List.set_cons_zero, List.set_cons_succ]) (hCont (.slice (some ⟨W6_9.heap.size, 0, none⟩) 0 0, v60, .slice (some ⟨W6.heap.size, 0, none⟩) 1 1) _ ⟨hGW6_9_0_7, hOW6_9_0_7, hRW6_9_0_7⟩)
            rintro ⟨u53, u60, u62⟩ W7 ⟨hF7, hO7, hR7⟩
            dsimp only at hO7 hR7
            have hHeld := (⟨hF7.cell HS6.out.1, hF7.cell HS6.out.2.1, hF7.cell HS6.out.2.2.1, hF7.cell HS6.out.2.2.2.1, hF7.cell HS6.out.2.2.2.2.1, hF7.cell HS6.out.2.2.2.2.2.1, hF7.cell HS6.out.2.2.2.2.2.2.1, hF7.cell HS6.out.2.2.2.2.2.2.2.1, hF7.cell HS6.out.2.2.2.2.2.2.2.2.1, hF7.cell HS6.out.2.2.2.2.2.2.2.2.2.1, hF7.cell HS6.out.2.2.2.2.2.2.2.2.2.2.1, hF7.cell HS6.out.2.2.2.2.2.2.2.2.2.2.2.1, hF7.cell HS6.out.2.2.2.2.2.2.2.2.2.2.2.2.1, hF7.cell HS6.out.2.2.2.2.2.2.2.2.2.2.2.2.2.1, hF7.cell HS6.out.2.2.2.2.2.2.2.2.2.2.2.2.2.2⟩ : W7.cell? ⟨D, 0, none⟩ = some (.slice (some ⟨g, 0, none⟩) dl.length cap) ∧ W7.cell? ⟨X, 0, none⟩ = some (.int .u16 ix) ∧ W7.cell? ⟨X, 1, none⟩ = some (.int .u8 sub) ∧ W7.cell? ⟨X, 2, none⟩ = some (.int .i64 acc) ∧ W7.cell? ⟨X, 3, none⟩ = some (.bool mp) ∧ W7.cell? ⟨X, 4, none⟩ = some (.bool lim) ∧ W7.cell? ⟨X, 5, none⟩ = some (.int .i64 t1) ∧ W7.cell? ⟨X, 6, none⟩ = some (.int .u64 n1) ∧ W7.cell? ⟨X, 7, none⟩ = some (.string b1) ∧ W7.cell? ⟨X, 8, none⟩ = some (.int .i64 t2) ∧ W7.cell? ⟨X, 9, none⟩ = some (.int .u64 n2) ∧ W7.cell? ⟨X, 10, none⟩ = some (.string b2) ∧ W7.cell? ⟨X, 11, none⟩ = some (.int .i64 p1) ∧ W7.cell? ⟨X, 12, none⟩ = some (.int .u64 p2) ∧ W7.cell? ⟨X, 13, none⟩ = some (.string p3))
            refine norm_ (a' := ?_) ?_ ?_
            rotate_left
            · simp only [putAll, Act.put, List.setIfInBounds_toArray, List.set_cons_zero, List.set_cons_succ]
              rfl
            refine one_ (i := 10) (N := some 63) #[true, true, true, true, true, true, true, true, true, true, true, false] rfl rfl (one_of HT_.out (by kernel_rfl)) (by decide) (fun K hK => ?_)
            refine step_append_rd _ (by rfl) (.tmp 60) (.tmp 62) _ (by rfl) W6.heap.size 46 i0 _ 14 120 Tryz.underlying22 hi0 hiz0 hiz1 hiz2 rfl (by omega) u60 (0 + m) ([] ++ ((dl.map E.cells).flatten.take (m * 14))) (by rfl) hO7 u62 1 [.int .u16 ix, .int .u8 sub, .int .i64 acc, .bool mp, .bool lim, .int .i64 t1, .int .u64 n1, .string b1, .int .i64 t2, .int .u64 n2, .string b2, .int .i64 p1, .int .u64 p2, .string p3] (by rfl) hR7 (by simp [Value.oneCell']) (by simp only [maxLen]; omega) (by omega) (by have := hF7.size; omega) ?_
            intro v63 W8 hO8 hg8
            have hF8 : Fr W6 W8 := Fr.grown hF7 hg8 (fun r hr => (hO7.lt r hr).1)
            refine hK.out _ _ ⟨(hF8.cell HS6.out.1), (hF8.cell HS6.out.2.1), (hF8.cell HS6.out.2.2.1), (hF8.cell HS6.out.2.2.2.1), (hF8.cell HS6.out.2.2.2.2.1), (hF8.cell HS6.out.2.2.2.2.2.1), (hF8.cell HS6.out.2.2.2.2.2.2.1), (hF8.cell HS6.out.2.2.2.2.2.2.2.1), (hF8.cell HS6.out.2.2.2.2.2.2.2.2.1), (hF8.cell HS6.out.2.2.2.2.2.2.2.2.2.1), (hF8.cell HS6.out.2.2.2.2.2.2.2.2.2.2.1), (hF8.cell HS6.out.2.2.2.2.2.2.2.2.2.2.2.1), (hF8.cell HS6.out.2.2.2.2.2.2.2.2.2.2.2.2.1), (hF8.cell HS6.out.2.2.2.2.2.2.2.2.2.2.2.2.2.1), (hF8.cell HS6.out.2.2.2.2.2.2.2.2.2.2.2.2.2.2)⟩ (fun hHeld => ?_)
            clear hK K
            refine norm_ (a' := ?_) ?_ ?_
            rotate_left
            · show Act.put _ (some 63) _ = _
              simp only [Act.put, List.setIfInBounds_toArray, List.set_cons_zero, List.set_cons_succ, i64_w, i32_w]
              rfl
            refine pure_ (i := 11) (N := some 9) (v := ?_) (a' := ?_) #[true, true, true, true, true, true, true, true, true, true, true, true] rfl rfl (any_of HT_.out (by kernel_rfl)) (fun _ _ _ h => h) (Or.inl ⟨by rfl, ?_⟩) ?_ ?_
            rotate_left
            · intro w'
              go_simp
              with_reducible rfl
            rotate_left
            · simp only [Act.put, List.setIfInBounds_toArray, List.set_cons_zero, List.set_cons_succ, i64_w, i32_w]
              rfl
            refine done_ (done_of HT_.out (by kernel_rfl)) ?_

            have hD8 := hF8.at_ (hF6.at_ HD3.out)
            have z8 := hF8.size
            have hne8 : some D ≠ v63.ownBlock := fun hh => by have := (hO8.lt D hh.symm).1; omega
            have e8 := cell0 hD8
            have f8 := froz2 hD8 0
            go_wp2_with (at_builtin; refine wpList_append_rd _ (by rfl) (.tmp 65) (.tmp 71) _ (by rfl) W6.heap.size 46 i0 _ 14 120 Tryz.underlying22 hi0 hiz0 hiz1 hiz2 rfl (by omega) v63 (0 + m + 1) ([] ++ ((dl.map E.cells).flatten.take (m * 14)) ++ [.int .u16 ix, .int .u8 sub, .int .i64 acc, .bool mp, .bool lim, .int .i64 t1, .int .u64 n1, .string b1, .int .i64 t2, .int .u64 n2, .string b2, .int .i64 p1, .int .u64 p2, .string p3]) (by rfl) hO8 (_) 0 [] (by rfl) (Rd.empty _ _ _ _ (by have := HCM.out; omega)) (by simp) (by simp only [maxLen]; omega) (by omega) (by omega) ?_; intro v72 W9 hO9 hg9; obtain ⟨g9, c9, hv9, _⟩ := World.ownsRow.form hO9 (by omega); subst hv9; have hF9 : Fr W6 W9 := Fr.grown hF8 hg9 (fun r hr => (hO8.lt r hr).1); have hD9 := hF9.at_ (hF6.at_ HD3.out); have e9 := cell0 hD9; have f9 := froz2 hD9 0)
            go_roundw
            case rel =>
              have hne9 := fun hh => (show False by have := (hO9.lt D hh).1; omega)
              have hcs0 : [] ++ ((dl.map E.cells).flatten.take (m * 14)) ++ [.int .u16 ix, .int .u8 sub, .int .i64 acc, .bool mp, .bool lim, .int .i64 t1, .int .u64 n1, .string b1, .int .i64 t2, .int .u64 n2, .string b2, .int .i64 p1, .int .u64 p2, .string p3] ++ (dl.map E.cells).flatten.drop (m * 14) = ((insE x dl).map E.cells).flatten := by
                rw [insE_at x dl m hm (fun j y hj hy => by have h1 := hz.out j y hj hy; have h2 := HXP.out; omega) (fun y hy h => by have := HST.out y hy; omega), List.map_append, List.flatten_append, List.map_cons, List.flatten_cons, flat_take E.cells 14 E.len dl m hm, flat_drop E.cells 14 E.len dl m hm, HXE.out]
                simp [E.cells]
              have hz0 : (dl.map E.cells).flatten.drop (m * 14) = [] := List.drop_of_length_le (by rw [flat_len E.cells 14 E.len]; omega)
              rw [hz0] at hcs0
              have hcs := hcs0
              have hnl2 : 0 + m + 1 + 0 = (insE x dl).length := by rw [insE_len]; omega
              have hO9' : W9.ownsRow W6.heap.size 46 14 (.slice (some ⟨g9, 0, none⟩) (m + 1) c9) (insE x dl).length ((insE x dl).map E.cells).flatten := by
                rw [← hcs, ← hnl2]
                simpa only [Nat.zero_add, Nat.add_zero] using hO9
              refine ⟨k + 1, _, insE x dl, by omega, by go_num, ?_, Lib.hid (set0 hD9 _), Lib.hid ?_, Lib.hid HIT.out.symm⟩
              · exact Fr.set (((hF.trans hFW).trans hF6).trans hF9) hwD _
              · exact ownsRow_mono (ownsRow_set hO9' ⟨D, 0, none⟩ _ hne9) (by omega)
            case measure =>
              show l.length - ((k : Int) + 1).toNat < l.length - ((k : Int)).toNat
              omega
          · subst hA
            obtain rfl : m = cap := hcp.symm
            have q4 : (m : Int) ≤ (dl.length : Int) := by omega --m
            have cD1 := cell0 (hFm.at_ HD3.out)
            go_wp2_with fail
            refine start_ (n := 20) (S := fun w' => w'.cell? ⟨D, 0, none⟩ = some (.slice (some ⟨g, 0, none⟩) dl.length m)) (ds := []) #[false, false, false, false, false, false, false, false, false, false, false, false, false, false, false, false, false, false, false, false] (by kernel_rfl) rfl rfl (cD1) (fun hHeld => ?_)
            refine with_tabW Rnew10.tab Rnew10.bits (fun HT_ HW_ => ?_)
            refine pure_ (i := 0) (N := some 31) (v := ?_) (a' := ?_) #[true, false, false, false, false, false, false, false, false, false, false, false, false, false, false, false, false, false, false, false] rfl rfl (any_of HT_.out (by kernel_rfl)) (fun _ _ _ h => h) (Or.inl ⟨by rfl, ?_⟩) ?_ ?_
            rotate_left
            · intro w'
              go_simp
              with_reducible rfl
            rotate_left
            · simp only [Act.put, List.setIfInBounds_toArray, List.set_cons_zero, List.set_cons_succ, i64_w, i32_w]
              rfl
            refine pure_ (i := 1) (N := some 32) (v := ?_) (a' := ?_) #[true, true, false, false, false, false, false, false, false, false, false, false, false, false, false, false, false, false, false, false] rfl rfl (any_of HT_.out (by kernel_rfl)) (fun _ _ _ h => h) (Or.inl ⟨by rfl, ?_⟩) ?_ ?_
            rotate_left
            · intro w'
              go_simp
              with_reducible rfl
            rotate_left
            · simp only [Act.put, List.setIfInBounds_toArray, List.set_cons_zero, List.set_cons_succ, i64_w, i32_w]
              rfl
            refine pure_ (i := 2) (N := some 33) (v := ?_) (a' := ?_) #[true, true, true, false, false, false, false, false, false, false, false, false, false, false, false, false, false, false, false, false] rfl rfl (any_of HT_.out (by kernel_rfl)) (fun _ _ _ h => h) (Or.inl ⟨by rfl, ?_⟩) ?_ ?_
            rotate_left
            · intro w'
              go_simp
              with_reducible rfl
            rotate_left
            · simp only [Act.put, List.setIfInBounds_toArray, List.set_cons_zero, List.set_cons_succ, i64_w, i32_w]
              rfl
            refine pure_ (i := 3) (N := some 34) (v := ?_) (a' := ?_) #[true, true, true, true, false, false, false, false, false, false, false, false, false, false, false, false, false, false, false, false] rfl rfl (any_of HT_.out (by kernel_rfl)) (fun _ _ _ h => h) (Or.inl ⟨by rfl, ?_⟩) ?_ ?_
            rotate_left
            · intro w'
              go_simp
              with_reducible rfl
            rotate_left
            · simp only [Act.put, List.setIfInBounds_toArray, List.set_cons_zero, List.set_cons_succ, i64_w, i32_w]
              rfl
            refine take_ (i := 4) (N := some 35) (v := ?_) (a' := ?_) #[true, true, true, true, true, false, false, false, false, false, false, false, false, false, false, false, false, false, false, false] rfl rfl (take_ofW HT_.out HW_.out (by kernel_rfl)) (fun _ _ _ h => h) (Or.inl ⟨by rfl, ?_⟩) hHeld ?_ ?_
            rotate_left
            · intro w' s0
              go_simp
              with_reducible rfl
            rotate_left
            · simp only [Act.put, List.setIfInBounds_toArray, List.set_cons_zero, List.set_cons_succ, i64_w, i32_w]
              rfl
            refine pure_ (i := 5) (N := some 36) (v := ?_) (a' := ?_) #[true, true, true, true, true, true, false, false, false, false, false, false, false, false, false, false, false, false, false, false] rfl rfl (any_of HT_.out (by kernel_rfl)) (fun _ _ _ h => h) (Or.inl ⟨by rfl, ?_⟩) ?_ ?_
            rotate_left
            · intro w'
              go_simp
              with_reducible rfl
            rotate_left
            · simp only [Act.put, List.setIfInBounds_toArray, List.set_cons_zero, List.set_cons_succ, i64_w, i32_w]
              rfl
            refine pure_ (i := 6) (N := some 37) (v := ?_) (a' := ?_) #[true, true, true, true, true, true, true, false, false, false, false, false, false, false, false, false, false, false, false, false] rfl rfl (any_of HT_.out (by kernel_rfl)) (fun _ _ _ h => h) (Or.inl ⟨by rfl, ?_⟩) ?_ ?_
            rotate_left
            · intro w'
              go_simp
              with_reducible rfl
            rotate_left
            · simp only [Act.put, List.setIfInBounds_toArray, List.set_cons_zero, List.set_cons_succ, i64_w, i32_w]
              rfl
            refine pure_ (i := 7) (N := some 38) (v := ?_) (a' := ?_) #[true, true, true, true, true, true, true, true, false, false, false, false, false, false, false, false, false, false, false, false] rfl rfl (any_of HT_.out (by kernel_rfl)) (fun _ _ _ h => h) (Or.inl ⟨by rfl, ?_⟩) ?_ ?_
            rotate_left
            · intro w'
              go_simp
              with_reducible rfl
            rotate_left
            · simp only [Act.put, List.setIfInBounds_toArray, List.set_cons_zero, List.set_cons_succ, i64_w, i32_w]
              rfl
            refine pure_ (i := 8) (N := some 39) (v := undef) (a' := ?_) #[true, true, true, true, true, true, true, true, true, false, false, false, false, false, false, false, false, false, false, false] rfl rfl (any_of HT_.out (by kernel_rfl)) (fun _ _ _ h => h) (Or.inr ⟨by rfl, rfl⟩) ?_ ?_
            rotate_left
            · simp only [Act.put, List.setIfInBounds_toArray, List.set_cons_zero, List.set_cons_succ, i64_w, i32_w]
              rfl
            refine pure_ (i := 9) (N := some 40) (v := undef) (a' := ?_) #[true, true, true, true, true, true, true, true, true, true, false, false, false, false, false, false, false, false, false, false] rfl rfl (any_of HT_.out (by kernel_rfl)) (fun _ _ _ h => h) (Or.inr ⟨by rfl, rfl⟩) ?_ ?_
            rotate_left
            · simp only [Act.put, List.setIfInBounds_toArray, List.set_cons_zero, List.set_cons_succ, i64_w, i32_w]
              rfl
            refine pure_ (i := 10) (N := some 41) (v := undef) (a' := ?_) #[true, true, true, true, true, true, true, true, true, true, true, false, false, false, false, false, false, false, false, false] rfl rfl (any_of HT_.out (by kernel_rfl)) (fun _ _ _ h => h) (Or.inr ⟨by rfl, rfl⟩) ?_ ?_
            rotate_left
            · simp only [Act.put, List.setIfInBounds_toArray, List.set_cons_zero, List.set_cons_succ, i64_w, i32_w]
              rfl
            refine pure_ (i := 11) (N := some 42) (v := undef) (a' := ?_) #[true, true, true, true, true, true, true, true, true, true, true, true, false, false, false, false, false, false, false, false] rfl rfl (any_of HT_.out (by kernel_rfl)) (fun _ _ _ h => h) (Or.inr ⟨by rfl, rfl⟩) ?_ ?_
            rotate_left
            · simp only [Act.put, List.setIfInBounds_toArray, List.set_cons_zero, List.set_cons_succ, i64_w, i32_w]
              rfl
            refine pure_ (i := 12) (N := some 43) (v := undef) (a' := ?_) #[true, true, true, true, true, true, true, true, true, true, true, true, true, false, false, false, false, false, false, false] rfl rfl (any_of HT_.out (by kernel_rfl)) (fun _ _ _ h => h) (Or.inr ⟨by rfl, rfl⟩) ?_ ?_
            rotate_left
            · simp only [Act.put, List.setIfInBounds_toArray, List.set_cons_zero, List.set_cons_succ, i64_w, i32_w]
              rfl
            refine pure_ (i := 13) (N := some 44) (v := undef) (a' := ?_) #[true, true, true, true, true, true, true, true, true, true, true, true, true, true, false, false, false, false, false, false] rfl rfl (any_of HT_.out (by kernel_rfl)) (fun _ _ _ h => h) (Or.inr ⟨by rfl, rfl⟩) ?_ ?_
            rotate_left
            · simp only [Act.put, List.setIfInBounds_toArray, List.set_cons_zero, List.set_cons_succ, i64_w, i32_w]
              rfl
            refine pure_ (i := 14) (N := some 45) (v := undef) (a' := ?_) #[true, true, true, true, true, true, true, true, true, true, true, true, true, true, true, false, false, false, false, false] rfl rfl (any_of HT_.out (by kernel_rfl)) (fun _ _ _ h => h) (Or.inr ⟨by rfl, rfl⟩) ?_ ?_
            rotate_left
            · simp only [Act.put, List.setIfInBounds_toArray, List.set_cons_zero, List.set_cons_succ, i64_w, i32_w]
              rfl
            refine pure_ (i := 15) (N := some 46) (v := undef) (a' := ?_) #[true, true, true, true, true, true, true, true, true, true, true, true, true, true, true, true, false, false, false, false] rfl rfl (any_of HT_.out (by kernel_rfl)) (fun _ _ _ h => h) (Or.inr ⟨by rfl, rfl⟩) ?_ ?_
            rotate_left
            · simp only [Act.put, List.setIfInBounds_toArray, List.set_cons_zero, List.set_cons_succ, i64_w, i32_w]
              rfl
            refine pure_ (i := 16) (N := some 47) (v := undef) (a' := ?_) #[true, true, true, true, true, true, true, true, true, true, true, true, true, true, true, true, true, false, false, false] rfl rfl (any_of HT_.out (by kernel_rfl)) (fun _ _ _ h => h) (Or.inr ⟨by rfl, rfl⟩) ?_ ?_
            rotate_left
            · simp only [Act.put, List.setIfInBounds_toArray, List.set_cons_zero, List.set_cons_succ, i64_w, i32_w]
              rfl
            refine pure_ (i := 17) (N := some 48) (v := undef) (a' := ?_) #[true, true, true, true, true, true, true, true, true, true, true, true, true, true, true, true, true, true, false, false] rfl rfl (any_of HT_.out (by kernel_rfl)) (fun _ _ _ h => h) (Or.inr ⟨by rfl, rfl⟩) ?_ ?_
            rotate_left
            · simp only [Act.put, List.setIfInBounds_toArray, List.set_cons_zero, List.set_cons_succ, i64_w, i32_w]
              rfl
            refine pure_ (i := 18) (N := some 49) (v := undef) (a' := ?_) #[true, true, true, true, true, true, true, true, true, true, true, true, true, true, true, true, true, true, true, false] rfl rfl (any_of HT_.out (by kernel_rfl)) (fun _ _ _ h => h) (Or.inr ⟨by rfl, rfl⟩) ?_ ?_
            rotate_left
            · simp only [Act.put, List.setIfInBounds_toArray, List.set_cons_zero, List.set_cons_succ, i64_w, i32_w]
              rfl
            refine pure_ (i := 19) (N := some 50) (v := ?_) (a' := ?_) #[true, true, true, true, true, true, true, true, true, true, true, true, true, true, true, true, true, true, true, true] rfl rfl (any_of HT_.out (by kernel_rfl)) (fun _ _ _ h => h) (Or.inl ⟨by rfl, ?_⟩) ?_ ?_
            rotate_left
            · intro w'
              go_simp
              with_reducible rfl
            rotate_left
            · simp only [Act.put, List.setIfInBounds_toArray, List.set_cons_zero, List.set_cons_succ, i64_w, i32_w]
              rfl
            refine done_ (done_of HT_.out (by kernel_rfl)) ?_

            go_wp2_with fail
            generalize hW5 : World.drew wr = W5
            have hF5 : Fr W3 W5 := by rw [← hW5]; exact hFm.drew
            clear hW5 cD1
            clear cD hpx x0 x1 x2 x3 x4 x5 x6 x7 x8 x9 x10 x11 x12 x13
            refine start_ (n := 12) (S := fun w' => w'.cell? ⟨D, 0, none⟩ = some (.slice (some ⟨g, 0, none⟩) dl.length m) ∧ w'.cell? ⟨X, 0, none⟩ = some (.int .u16 ix) ∧ w'.cell? ⟨X, 1, none⟩ = some (.int .u8 sub) ∧ w'.cell? ⟨X, 2, none⟩ = some (.int .i64 acc) ∧ w'.cell? ⟨X, 3, none⟩ = some (.bool mp) ∧ w'.cell? ⟨X, 4, none⟩ = some (.bool lim) ∧ w'.cell? ⟨X, 5, none⟩ = some (.int .i64 t1) ∧ w'.cell? ⟨X, 6, none⟩ = some (.int .u64 n1) ∧ w'.cell? ⟨X, 7, none⟩ = some (.string b1) ∧ w'.cell? ⟨X, 8, none⟩ = some (.int .i64 t2) ∧ w'.cell? ⟨X, 9, none⟩ = some (.int .u64 n2) ∧ w'.cell? ⟨X, 10, none⟩ = some (.string b2) ∧ w'.cell? ⟨X, 11, none⟩ = some (.int .i64 p1) ∧ w'.cell? ⟨X, 12, none⟩ = some (.int .u64 p2) ∧ w'.cell? ⟨X, 13, none⟩ = some (.string p3)) (ds := []) #[false, false, false, false, false, false, false, false, false, false, false, false] (by kernel_rfl) rfl rfl ⟨(cell0 (hF5.drew.at_ HD3.out)), (hF5.drew.cell m0), (hF5.drew.cell m1), (hF5.drew.cell m2), (hF5.drew.cell m3), (hF5.drew.cell m4), (hF5.drew.cell m5), (hF5.drew.cell m6), (hF5.drew.cell m7), (hF5.drew.cell m8), (hF5.drew.cell m9), (hF5.drew.cell m10), (hF5.drew.cell m11), (hF5.drew.cell m12), (hF5.drew.cell m13)⟩ (fun hHeld => ?_)
            refine with_tabW Rnew12.tab Rnew12.bits (fun HT_ HW_ => ?_)
            generalize hW6 : W5.drew = W6 at hHeld ⊢
            have hF6 : Fr W3 W6 := by rw [← hW6]; exact hF5.drew
            have HS6 := Lib.hid hHeld
            clear hW6
            have hz6 := hF6.size
            have hRm : Rd W6 14 (.slice (some ⟨g, 0, none⟩) m m) m ((dl.map E.cells).flatten.take (m * 14)) := (Rd.take hR3.out hm).fr hF6
            have hones : ∀ x ∈ ((dl.map E.cells).flatten.take (m * 14)), x.oneCell' = true := fun x hx => ecs_one dl x (List.mem_of_mem_take hx)
            obtain ⟨i0, hi0, hiz0, hiz1, hiz2⟩ := info_parts infoEntry
            refine pure_ (i := 1) (N := some 54) (v := ?_) (a' := ?_) #[false, true, false, false, false, false, false, false, false, false, false, false] rfl rfl (any_of HT_.out (by kernel_rfl)) (fun _ _ _ h => h) (Or.inl ⟨by rfl, ?_⟩) ?_ ?_
            rotate_left
            · intro w'
              go_simp
              with_reducible rfl
            rotate_left
            · simp only [Act.put, List.setIfInBounds_toArray, List.set_cons_zero, List.set_cons_succ, i64_w, i32_w]
              rfl
            refine pure_ (i := 2) (N := some 55) (v := ?_) (a' := ?_) #[false, true, true, false, false, false, false, false, false, false, false, false] rfl rfl (any_of HT_.out (by kernel_rfl)) (fun _ _ _ h => h) (Or.inl ⟨by rfl, ?_⟩) ?_ ?_
            rotate_left
            · intro w'
              go_simp
              with_reducible rfl
            rotate_left
            · simp only [Act.put, List.setIfInBounds_toArray, List.set_cons_zero, List.set_cons_succ, i64_w, i32_w]
              rfl
            refine pure_ (i := 3) (N := some 56) (v := ?_) (a' := ?_) #[false, true, true, true, false, false, false, false, false, false, false, false] rfl rfl (any_of HT_.out (by kernel_rfl)) (fun _ _ _ h => h) (Or.inl ⟨by rfl, ?_⟩) ?_ ?_
            rotate_left
            · intro w'
              go_simp
              with_reducible rfl
            rotate_left
            · simp only [Act.put, List.setIfInBounds_toArray, List.set_cons_zero, List.set_cons_succ, i64_w, i32_w]
              rfl
            refine pure_ (i := 5) (N := some 58) (v := ?_) (a' := ?_) #[false, true, true, true, false, true, false, false, false, false, false, false] rfl rfl (any_of HT_.out (by kernel_rfl)) (fun _ _ _ h => h) (Or.inl ⟨by rfl, ?_⟩) ?_ ?_
            rotate_left
            · intro w'
              go_simp
              with_reducible rfl
            rotate_left
            · simp only [Act.put, List.setIfInBounds_toArray, List.set_cons_zero, List.set_cons_succ, i64_w, i32_w]
              rfl
            refine take_ (i := 4) (N := some 57) (v := ?_) (a' := ?_) #[false, true, true, true, true, true, false, false, false, false, false, false] rfl rfl (take_ofW HT_.out HW_.out (by kernel_rfl)) (fun _ _ _ h => h) (Or.inl ⟨by rfl, ?_⟩) hHeld ?_ ?_
            rotate_left
            · rintro w' ⟨s0, s1, s2, s3, s4, s5, s6, s7, s8, s9, s10, s11, s12, s13, s14⟩
              go_simp
              with_reducible rfl
            rotate_left
            · simp only [Act.put, List.setIfInBounds_toArray, List.set_cons_zero, List.set_cons_succ, i64_w, i32_w]
              rfl
            refine pure_ (i := 6) (N := some 59) (v := ?_) (a' := ?_) #[false, true, true, true, true, true, true, false, false, false, false, false] rfl rfl (any_of HT_.out (by kernel_rfl)) (fun _ _ _ h => h) (Or.inl ⟨by rfl, ?_⟩) ?_ ?_
            rotate_left
            · intro w'
              go_simp
              with_reducible rfl
            rotate_left
            · simp only [Act.put, List.setIfInBounds_toArray, List.set_cons_zero, List.set_cons_succ, i64_w, i32_w]
              rfl
            refine take_ (i := 8) (N := some 61) (v := ?_) (a' := ?_) #[false, true, true, true, true, true, true, false, true, false, false, false] rfl rfl (take_ofW HT_.out HW_.out (by kernel_rfl)) (fun _ _ _ h => h) (Or.inl ⟨by rfl, ?_⟩) hHeld ?_ ?_
            rotate_left
            · rintro w' ⟨s0, s1, s2, s3, s4, s5, s6, s7, s8, s9, s10, s11, s12, s13, s14⟩
              go_simp
              with_reducible rfl
            rotate_left
            · simp only [Act.put, List.setIfInBounds_toArray, List.set_cons_zero, List.set_cons_succ, i64_w, i32_w]
              rfl
            refine join_ (σ := Value × Value × Value) 2 #[true, true, true, true, true, true, true, true, true, true, false, false] (fun s => [(53, s.1), (60, s.2.1), (62, s.2.2)]) (fun s w' => Fr W6 w' ∧ w'.ownsRow W6.heap.size 46 14 s.2.1 (0 + m) ([] ++ ((dl.map E.cells).flatten.take (m * 14))) ∧ Rd w' 14 s.2.2 1 [.int .u16 ix, .int .u8 sub, .int .i64 acc, .bool mp, .bool lim, .int .i64 t1, .int .u64 n1, .string b1, .int .i64 t2, .int .u64 n2, .string b2, .int .i64 p1, .int .u64 p2, .string p3]) ?_ ?_
            rotate_left
            · intro hCont
              refine two_ (i := 0) (j := 9) (Ni := some 53) (Nj := some 62) #[true, true, true, true, true, true, true, false, true, false, false, false] #[false, true, true, true, true, true, true, false, true, true, false, false] rfl rfl rfl rfl (two_of HT_.out (by kernel_rfl)) (by decide) (by decide) (fun K hK => ?_) (fun K hK => ?_)
              · skip
                refine value_ (w1 := W6.alloc (.cells #[] 46)) (v := .slice (some ⟨W6.heap.size, 0, none⟩) 0 0) (by rfl) rfl ?_ ?_
                · go_simp
                obtain ⟨W6_0, hNW6_0⟩ : ∃ q, q = W6.alloc (.cells #[] 46) := ⟨_, rfl⟩
                have hGW6_0 : Fr W6 W6_0 := by rw [hNW6_0]; exact Fr.alloc (Fr.refl W6) _
                have hAW6_0 : Fr W6 W6_0 := by rw [hNW6_0]; exact Fr.alloc (Fr.refl _) _
                have hsW6_0 : W6_0.heap.size = W6.heap.size + 1 := by rw [hNW6_0]; simp
                have hOW6_0 : W6_0.ownsRow W6.heap.size 46 14 (.slice (some ⟨W6.heap.size, 0, none⟩) 0 0) 0 [] := by rw [hNW6_0]; exact World.ownsRow_made _ #[] 0 (by omega) (by simp [maxLen]) (by simp)
                rw [← hNW6_0]
                clear hNW6_0
                refine hK.out _ _ ⟨(hGW6_0.cell HS6.out.1), (hGW6_0.cell HS6.out.2.1), (hGW6_0.cell HS6.out.2.2.1), (hGW6_0.cell HS6.out.2.2.2.1), (hGW6_0.cell HS6.out.2.2.2.2.1), (hGW6_0.cell HS6.out.2.2.2.2.2.1), (hGW6_0.cell HS6.out.2.2.2.2.2.2.1), (hGW6_0.cell HS6.out.2.2.2.2.2.2.2.1), (hGW6_0.cell HS6.out.2.2.2.2.2.2.2.2.1), (hGW6_0.cell HS6.out.2.2.2.2.2.2.2.2.2.1), (hGW6_0.cell HS6.out.2.2.2.2.2.2.2.2.2.2.1), (hGW6_0.cell HS6.out.2.2.2.2.2.2.2.2.2.2.2.1), (hGW6_0.cell HS6.out.2.2.2.2.2.2.2.2.2.2.2.2.1), (hGW6_0.cell HS6.out.2.2.2.2.2.2.2.2.2.2.2.2.2.1), (hGW6_0.cell HS6.out.2.2.2.2.2.2.2.2.2.2.2.2.2.2)⟩ (fun hHeld => ?_)
                clear hK K
                refine norm_ (a' := ?_) ?_ ?_
                rotate_left
                · show Act.put _ (some 53) _ = _
                  simp only [Act.put, List.setIfInBounds_toArray, List.set_cons_zero, List.set_cons_succ, i64_w, i32_w]
                  rfl
                refine two_ (i := 7) (j := 9) (Ni := some 60) (Nj := some 62) #[true, true, true, true, true, true, true, true, true, false, false, false] #[true, true, true, true, true, true, true, false, true, true, false, false] rfl rfl rfl rfl (two_of HT_.out (by kernel_rfl)) (by decide) (by decide) (fun K hK => ?_) (fun K hK => ?_)
                · skip
                  refine step_append_rd _ (by rfl) (.tmp 53) (.tmp 59) _ (by rfl) W6.heap.size 46 i0 _ 14 120 Tryz.underlying22 hi0 hiz0 hiz1 hiz2 rfl (by omega) (.slice (some ⟨W6.heap.size, 0, none⟩) 0 0) 0 [] (by rfl) hOW6_0 (.slice (some ⟨g, 0, none⟩) m m) m ((dl.map E.cells).flatten.take (m * 14)) (by rfl) (Rd.fr hRm hGW6_0) hones (by simp only [maxLen]; omega) (by omega) (by omega) ?_
                  intro v60 W6_0_7 hOW6_0_7 hgW6_0_7
                  have hGW6_0_7 : Fr W6 W6_0_7 := Fr.grown hGW6_0 hgW6_0_7 (fun r hr => by simp [Value.ownBlock] at hr; omega)
                  have hzW6_0_7 := hgW6_0_7.size
                  refine hK.out _ _ ⟨(hGW6_0_7.cell HS6.out.1), (hGW6_0_7.cell HS6.out.2.1), (hGW6_0_7.cell HS6.out.2.2.1), (hGW6_0_7.cell HS6.out.2.2.2.1), (hGW6_0_7.cell HS6.out.2.2.2.2.1), (hGW6_0_7.cell HS6.out.2.2.2.2.2.1), (hGW6_0_7.cell HS6.out.2.2.2.2.2.2.1), (hGW6_0_7.cell HS6.out.2.2.2.2.2.2.2.1), (hGW6_0_7.cell HS6.out.2.2.2.2.2.2.2.2.1), (hGW6_0_7.cell HS6.out.2.2.2.2.2.2.2.2.2.1), (hGW6_0_7.cell HS6.out.2.2.2.2.2.2.2.2.2.2.1), (hGW6_0_7.cell HS6.out.2.2.2.2.2.2.2.2.2.2.2.1), (hGW6_0_7.cell HS6.out.2.2.2.2.2.2.2.2.2.2.2.2.1), (hGW6_0_7.cell HS6.out.2.2.2.2.2.2.2.2.2.2.2.2.2.1), (hGW6_0_7.cell HS6.out.2.2.2.2.2.2.2.2.2.2.2.2.2.2)⟩ (fun hHeld => ?_)
                  clear hK K
                  refine norm_ (a' := ?_) ?_ ?_
                  rotate_left
                  · show Act.put _ (some 60) _ = _
                    simp only [Act.put, List.setIfInBounds_toArray, List.set_cons_zero, List.set_cons_succ, i64_w, i32_w]
                    rfl
                  refine one_ (i := 9) (N := some 62) #[true, true, true, true, true, true, true, true, true, true, false, false] rfl rfl (one_of HT_.out (by kernel_rfl)) (by decide) (fun K hK => ?_)
                  refine value_ (w1 := W6_0_7.alloc (.cells #[.int .u16 ix, .int .u8 sub, .int .i64 acc, .bool mp, .bool lim, .int .i64 t1, .int .u64 n1, .string b1, .int .i64 t2, .int .u64 n2, .string b2, .int .i64 p1, .int .u64 p2, .string p3] 46)) (v := .slice (some ⟨W6_0_7.heap.size, 0, none⟩) 1 1) (by rfl) rfl ?_ ?_
                  · go_simp
                  obtain ⟨W6_0_7_9, hNW6_0_7_9⟩ : ∃ q, q = W6_0_7.alloc (.cells #[.int .u16 ix, .int .u8 sub, .int .i64 acc, .bool mp, .bool lim, .int .i64 t1, .int .u64 n1, .string b1, .int .i64 t2, .int .u64 n2, .string b2, .int .i64 p1, .int .u64 p2, .string p3] 46) := ⟨_, rfl⟩
                  have hGW6_0_7_9 : Fr W6 W6_0_7_9 := by rw [hNW6_0_7_9]; exact Fr.alloc (hGW6_0_7) _
                  have hAW6_0_7_9 : Fr W6_0_7 W6_0_7_9 := by rw [hNW6_0_7_9]; exact Fr.alloc (Fr.refl _) _
                  have hsW6_0_7_9 : W6_0_7_9.heap.size = W6_0_7.heap.size + 1 := by rw [hNW6_0_7_9]; simp
                  have hRW6_0_7_9 : Rd W6_0_7_9 14 (.slice (some ⟨W6_0_7.heap.size, 0, none⟩) 1 1) 1 [.int .u16 ix, .int .u8 sub, .int .i64 acc, .bool mp, .bool lim, .int .i64 t1, .int .u64 n1, .string b1, .int .i64 t2, .int .u64 n2, .string b2, .int .i64 p1, .int .u64 p2, .string p3] := by rw [hNW6_0_7_9]; exact Rd.of_block (heap_alloc_new _ _) (Nat.le_refl _) (by omega) (by simp) (List.prefix_refl _)
                  have hQW6_0_7_9 := ownsRow_fr hOW6_0_7 hAW6_0_7_9
                  rw [← hNW6_0_7_9]
                  clear hNW6_0_7_9
                  refine hK.out _ _ ⟨(hGW6_0_7_9.cell HS6.out.1), (hGW6_0_7_9.cell HS6.out.2.1), (hGW6_0_7_9.cell HS6.out.2.2.1), (hGW6_0_7_9.cell HS6.out.2.2.2.1), (hGW6_0_7_9.cell HS6.out.2.2.2.2.1), (hGW6_0_7_9.cell HS6.out.2.2.2.2.2.1), (hGW6_0_7_9.cell HS6.out.2.2.2.2.2.2.1), (hGW6_0_7_9.cell HS6.out.2.2.2.2.2.2.2.1), (hGW6_0_7_9.cell HS6.out.2.2.2.2.2.2.2.2.1), (hGW6_0_7_9.cell HS6.out.2.2.2.2.2.2.2.2.2.1), (hGW6_0_7_9.cell HS6.out.2.2.2.2.2.2.2.2.2.2.1), (hGW6_0_7_9.cell HS6.out.2.2.2.2.2.2.2.2.2.2.2.1), (hGW6_0_7_9.cell HS6.out.2.2.2.2.2.2.2.2.2.2.2.2.1), (hGW6_0_7_9.cell HS6.out.2.2.2.2.2.2.2.2.2.2.2.2.2.1), (hGW6_0_7_9.cell HS6.out.2.2.2.2.2.2.2.2.2.2.2.2.2.2)⟩ (fun hHeld => ?_)
                  clear hK K
                  refine norm_ (a' := ?_) ?_ ?_
                  rotate_left
                  · show Act.put _ (some 62) _ = _
                    simp only [Act.put, List.setIfInBounds_toArray, List.set_cons_zero, List.set_cons_succ, i64_w, i32_w]
                    rfl
                  exact norm_ (by simp only [putAll, Act.put, List.setIfInBounds_toArray, List.set_cons_zero, List.set_cons_succ]) (hCont (.slice (some ⟨W6.heap.size, 0, none⟩) 0 0, v60, .slice (some ⟨W6_0_7.heap.size, 0, none⟩) 1 1) _ ⟨hGW6_0_7_9, hQW6_0_7_9, hRW6_0_7_9⟩)
                · skip
                  refine value_ (w1 := W6_0.alloc (.cells #[.int .u16 ix, .int .u8 sub, .int .i64 acc, .bool mp, .bool lim, .int .i64 t1, .int .u64 n1, .string b1, .int .i64 t2, .int .u64 n2, .string b2, .int .i64 p1, .int .u64 p2, .string p3] 46)) (v := .slice (some ⟨W6_0.heap.size, 0, none⟩) 1 1) (by rfl) rfl ?_ ?_
                  · go_simp
                  obtain ⟨W6_0_9, hNW6_0_9⟩ : ∃ q, q = W6_0.alloc (.cells #[.int .u16 ix, .int .u8 sub, .int .i64 acc, .bool mp, .bool lim, .int .i64 t1, .int .u64 n1, .string b1, .int .i64 t2, .int .u64 n2, .string b2, .int .i64 p1, .int .u64 p2, .string p3] 46) := ⟨_, rfl⟩
                  have hGW6_0_9 : Fr W6 W6_0_9 := by rw [hNW6_0_9]; exact Fr.alloc (hGW6_0) _
                  have hAW6_0_9 : Fr W6_0 W6_0_9 := by rw [hNW6_0_9]; exact Fr.alloc (Fr.refl _) _
                  have hsW6_0_9 : W6_0_9.heap.size = W6_0.heap.size + 1 := by rw [hNW6_0_9]; simp
                  have hRW6_0_9 : Rd W6_0_9 14 (.slice (some ⟨W6_0.heap.size, 0, none⟩) 1 1) 1 [.int .u16 ix, .int .u8 sub, .int .i64 acc, .bool mp, .bool lim, .int .i64 t1, .int .u64 n1, .string b1, .int .i64 t2, .int .u64 n2, .string b2, .int .i64 p1, .int .u64 p2, .string p3] := by rw [hNW6_0_9]; exact Rd.of_block (heap_alloc_new _ _) (Nat.le_refl _) (by omega) (by simp) (List.prefix_refl _)
                  rw [← hNW6_0_9]
                  clear hNW6_0_9
                  refine hK.out _ _ ⟨(hGW6_0_9.cell HS6.out.1), (hGW6_0_9.cell HS6.out.2.1), (hGW6_0_9.cell HS6.out.2.2.1), (hGW6_0_9.cell HS6.out.2.2.2.1), (hGW6_0_9.cell HS6.out.2.2.2.2.1), (hGW6_0_9.cell HS6.out.2.2.2.2.2.1), (hGW6_0_9.cell HS6.out.2.2.2.2.2.2.1), (hGW6_0_9.cell HS6.out.2.2.2.2.2.2.2.1), (hGW6_0_9.cell HS6.out.2.2.2.2.2.2.2.2.1), (hGW6_0_9.cell HS6.out.2.2.2.2.2.2.2.2.2.1), (hGW6_0_9.cell HS6.out.2.2.2.2.2.2.2.2.2.2.1), (hGW6_0_9.cell HS6.out.2.2.2.2.2.2.2.2.2.2.2.1), (hGW6_0_9.cell HS6.out.2.2.2.2.2.2.2.2.2.2.2.2.1), (hGW6_0_9.cell HS6.out.2.2.2.2.2.2.2.2.2.2.2.2.2.1), (hGW6_0_9.cell HS6.out.2.2.2.2.2.2.2.2.2.2.2.2.2.2)⟩ (fun hHeld => ?_)
                  clear hK K
                  refine norm_ (a' := ?_) ?_ ?_
                  rotate_left
                  · show Act.put _ (some 62) _ = _
                    simp only [Act.put, List.setIfInBounds_toArray, List.set_cons_zero, List.set_cons_succ, i64_w, i32_w]
                    rfl
                  refine one_ (i := 7) (N := some 60) #[true, true, true, true, true, true, true, true, true, true, false, false] rfl rfl (one_of HT_.out (by kernel_rfl)) (by decide) (fun K hK => ?_)
                  refine step_append_rd _ (by rfl) (.tmp 53) (.tmp 59) _ (by rfl) W6.heap.size 46 i0 _ 14 120 Tryz.underlying22 hi0 hiz0 hiz1 hiz2 rfl (by omega) (.slice (some ⟨W6.heap.size, 0, none⟩) 0 0) 0 [] (by rfl) (ownsRow_fr hOW6_0 hAW6_0_9) (.slice (some ⟨g, 0, none⟩) m m) m ((dl.map E.cells).flatten.take (m * 14)) (by rfl) (Rd.fr hRm hGW6_0_9) hones (by simp only [maxLen]; omega) (by omega) (by omega) ?_
                  intro v60 W6_0_9_7 hOW6_0_9_7 hgW6_0_9_7
                  have hGW6_0_9_7 : Fr W6 W6_0_9_7 := Fr.grown hGW6_0_9 hgW6_0_9_7 (fun r hr => by simp [Value.ownBlock] at hr; omega)
                  have hzW6_0_9_7 := hgW6_0_9_7.size
                  have hRW6_0_9_7 := Rd.grown hRW6_0_9 hgW6_0_9_7 (fun g hg hh => by simp [Value.ownBlock] at hg hh; omega)
                  refine hK.out _ _ ⟨(hGW6_0_9_7.cell HS6.out.1), (hGW6_0_9_7.cell HS6.out.2.1), (hGW6_0_9_7.cell HS6.out.2.2.1), (hGW6_0_9_7.cell HS6.out.2.2.2.1), (hGW6_0_9_7.cell HS6.out.2.2.2.2.1), (hGW6_0_9_7.cell HS6.out.2.2.2.2.2.1), (hGW6_0_9_7.cell HS6.out.2.2.2.2.2.2.1), (hGW6_0_9_7.cell HS6.out.2.2.2.2.2.2.2.1), (hGW6_0_9_7.cell HS6.out.2.2.2.2.2.2.2.2.1), (hGW6_0_9_7.cell HS6.out.2.2.2.2.2.2.2.2.2.1), (hGW6_0_9_7.cell HS6.out.2.2.2.2.2.2.2.2.2.2.1), (hGW6_0_9_7.cell HS6.out.2.2.2.2.2.2.2.2.2.2.2.1), (hGW6_0_9_7.cell HS6.out.2.2.2.2.2.2.2.2.2.2.2.2.1), (hGW6_0_9_7.cell HS6.out.2.2.2.2.2.2.2.2.2.2.2.2.2.1), (hGW6_0_9_7.cell HS6.out.2.2.2.2.2.2.2.2.2.2.2.2.2.2)⟩ (fun hHeld => ?_)
                  clear hK K
                  refine norm_ (a' := ?_) ?_ ?_
                  rotate_left
                  · show Act.put _ (some 60) _ = _
                    simp only [Act.put, List.setIfInBounds_toArray, List.set_cons_zero, List.set_cons_succ, i64_w, i32_w]
                    rfl
                  exact norm_ (by simp only [putAll, Act.put, List.setIfInBounds_toArray, List.set_cons_zero, List.set_cons_succ]) (hCont (.slice (some ⟨W6.heap.size, 0, none⟩) 0 0, v60, .slice (some ⟨W6_0.heap.size, 0, none⟩) 1 1) _ ⟨hGW6_0_9_7, hOW6_0_9_7, hRW6_0_9_7⟩)
              · skip
                refine value_ (w1 := W6.alloc (.cells #[.int .u16 ix, .int .u8 sub, .int .i64 acc, .bool mp, .bool lim, .int .i64 t1, .int .u64 n1, .string b1, .int .i64 t2, .int .u64 n2, .string b2, .int .i64 p1, .int .u64 p2, .string p3] 46)) (v := .slice (some ⟨W6.heap.size, 0, none⟩) 1 1) (by rfl) rfl ?_ ?_
                · go_simp
                obtain ⟨W6_9, hNW6_9⟩ : ∃ q, q = W6.alloc (.cells #[.int .u16 ix, .int .u8 sub, .int .i64 acc, .bool mp, .bool lim, .int .i64 t1, .int .u64 n1, .string b1, .int .i64 t2, .int .u64 n2, .string b2, .int .i64 p1, .int .u64 p2, .string p3] 46) := ⟨_, rfl⟩
                have hGW6_9 : Fr W6 W6_9 := by rw [hNW6_9]; exact Fr.alloc (Fr.refl W6) _
                have hAW6_9 : Fr W6 W6_9 := by rw [hNW6_9]; exact Fr.alloc (Fr.refl _) _
                have hsW6_9 : W6_9.heap.size = W6.heap.size + 1 := by rw [hNW6_9]; simp
                have hRW6_9 : Rd W6_9 14 (.slice (some ⟨W6.heap.size, 0, none⟩) 1 1) 1 [.int .u16 ix, .int .u8 sub, .int .i64 acc, .bool mp, .bool lim, .int .i64 t1, .int .u64 n1, .string b1, .int .i64 t2, .int .u64 n2, .string b2, .int .i64 p1, .int .u64 p2, .string p3] := by rw [hNW6_9]; exact Rd.of_block (heap_alloc_new _ _) (Nat.le_refl _) (by omega) (by simp) (List.prefix_refl _)
                rw [← hNW6_9]
                clear hNW6_9
                refine hK.out _ _ ⟨(hGW6_9.cell HS6.out.1), (hGW6_9.cell HS6.out.2.1), (hGW6_9.cell HS6.out.2.2.1), (hGW6_9.cell HS6.out.2.2.2.1), (hGW6_9.cell HS6.out.2.2.2.2.1), (hGW6_9.cell HS6.out.2.2.2.2.2.1), (hGW6_9.cell HS6.out.2.2.2.2.2.2.1), (hGW6_9.cell HS6.out.2.2.2.2.2.2.2.1), (hGW6_9.cell HS6.out.2.2.2.2.2.2.2.2.1), (hGW6_9.cell HS6.out.2.2.2.2.2.2.2.2.2.1), (hGW6_9.cell HS6.out.2.2.2.2.2.2.2.2.2.2.1), (hGW6_9.cell HS6.out.2.2.2.2.2.2.2.2.2.2.2.1), (hGW6_9.cell HS6.out.2.2.2.2.2.2.2.2.2.2.2.2.1), (hGW6_9.cell HS6.out.2.2.2.2.2.2.2.2.2.2.2.2.2.1), (hGW6_9.cell HS6.out.2.2.2.2.2.2.2.2.2.2.2.2.2.2)⟩ (fun hHeld => ?_)
                clear hK K
                refine norm_ (a' := ?_) ?_ ?_
                rotate_left
                · show Act.put _ (some 62) _ = _
                  simp only [Act.put, List.setIfInBounds_toArray, List.set_cons_zero, List.set_cons_succ, i64_w, i32_w]
                  rfl
                refine one_ (i := 0) (N := some 53) #[true, true, true, true, true, true, true, false, true, true, false, false] rfl rfl (one_of HT_.out (by kernel_rfl)) (by decide) (fun K hK => ?_)
                refine value_ (w1 := W6_9.alloc (.cells #[] 46)) (v := .slice (some ⟨W6_9.heap.size, 0, none⟩) 0 0) (by rfl) rfl ?_ ?_
                · go_simp
                obtain ⟨W6_9_0, hNW6_9_0⟩ : ∃ q, q = W6_9.alloc (.cells #[] 46) := ⟨_, rfl⟩
                have hGW6_9_0 : Fr W6 W6_9_0 := by rw [hNW6_9_0]; exact Fr.alloc (hGW6_9) _
                have hAW6_9_0 : Fr W6_9 W6_9_0 := by rw [hNW6_9_0]; exact Fr.alloc (Fr.refl _) _
                have hsW6_9_0 : W6_9_0.heap.size = W6_9.heap.size + 1 := by rw [hNW6_9_0]; simp
                have hOW6_9_0 : W6_9_0.ownsRow W6.heap.size 46 14 (.slice (some ⟨W6_9.heap.size, 0, none⟩) 0 0) 0 [] := by rw [hNW6_9_0]; exact World.ownsRow_made _ #[] 0 (by omega) (by simp [maxLen]) (by simp)
                rw [← hNW6_9_0]
                clear hNW6_9_0
                refine hK.out _ _ ⟨(hGW6_9_0.cell HS6.out.1), (hGW6_9_0.cell HS6.out.2.1), (hGW6_9_0.cell HS6.out.2.2.1), (hGW6_9_0.cell HS6.out.2.2.2.1), (hGW6_9_0.cell HS6.out.2.2.2.2.1), (hGW6_9_0.cell HS6.out.2.2.2.2.2.1), (hGW6_9_0.cell HS6.out.2.2.2.2.2.2.1), (hGW6_9_0.cell HS6.out.2.2.2.2.2.2.2.1), (hGW6_9_0.cell HS6.out.2.2.2.2.2.2.2.2.1), (hGW6_9_0.cell HS6.out.2.2.2.2.2.2.2.2.2.1), (hGW6_9_0.cell HS6.out.2.2.2.2.2.2.2.2.2.2.1), (hGW6_9_0.cell HS6.out.2.2.2.2.2.2.2.2.2.2.2.1), (hGW6_9_0.cell HS6.out.2.2.2.2.2.2.2.2.2.2.2.2.1), (hGW6_9_0.cell HS6.out.2.2.2.2.2.2.2.2.2.2.2.2.2.1), (hGW6_9_0.cell HS6.out.2.2.2.2.2.2.2.2.2.2.2.2.2.2)⟩ (fun hHeld => ?_)
                clear hK K
                refine norm_ (a' := ?_) ?_ ?_
                rotate_left
                · show Act.put _ (some 53) _ = _
                  simp only [Act.put, List.setIfInBounds_toArray, List.set_cons_zero, List.set_cons_succ, i64_w, i32_w]
                  rfl
                refine one_ (i := 7) (N := some 60) #[true, true, true, true, true, true, true, true, true, true, false, false] rfl rfl (one_of HT_.out (by kernel_rfl)) (by decide) (fun K hK => ?_)
                refine step_append_rd _ (by rfl) (.tmp 53) (.tmp 59) _ (by rfl) W6.heap.size 46 i0 _ 14 120 Tryz.underlying22 hi0 hiz0 hiz1 hiz2 rfl (by omega) (.slice (some ⟨W6_9.heap.size, 0, none⟩) 0 0) 0 [] (by rfl) hOW6_9_0 (.slice (some ⟨g, 0, none⟩) m m) m ((dl.map E.cells).flatten.take (m * 14)) (by rfl) (Rd.fr hRm hGW6_9_0) hones (by simp only [maxLen]; omega) (by omega) (by omega) ?_
                intro v60 W6_9_0_7 hOW6_9_0_7 hgW6_9_0_7
                have hGW6_9_0_7 : Fr W6 W6_9_0_7 := Fr.grown hGW6_9_0 hgW6_9_0_7 (fun r hr => by simp [Value.ownBlock] at hr; omega)
                have hzW6_9_0_7 := hgW6_9_0_7.size
                have hRW6_9_0_7 := Rd.grown (Rd.fr hRW6_9 hAW6_9_0) hgW6_9_0_7 (fun g hg hh => by simp [Value.ownBlock] at hg hh; omega)
                refine hK.out _ _ ⟨(hGW6_9_0_7.cell HS6.out.1), (hGW6_9_0_7.cell HS6.out.2.1), (hGW6_9_0_7.cell HS6.out.2.2.1), (hGW6_9_0_7.cell HS6.out.2.2.2.1), (hGW6_9_0_7.cell HS6.out.2.2.2.2.1), (hGW6_9_0_7.cell HS6.out.2.2.2.2.2.1), (hGW6_9_0_7.cell HS6.out.2.2.2.2.2.2.1), (hGW6_9_0_7.cell HS6.out.2.2.2.2.2.2.2.1), (hGW6_9_0_7.cell HS6.out.2.2.2.2.2.2.2.2.1), (hGW6_9_0_7.cell HS6.out.2.2.2.2.2.2.2.2.2.1), (hGW6_9_0_7.cell HS6.out.2.2.2.2.2.2.2.2.2.2.1), (hGW6_9_0_7.cell HS6.out.2.2.2.2.2.2.2.2.2.2.2.1), (hGW6_9_0_7.cell HS6.out.2.2.2.2.2.2.2.2.2.2.2.2.1), (hGW6_9_0_7.cell HS6.out.2.2.2.2.2.2.2.2.2.2.2.2.2.1), (hGW6_9_0_7.cell HS6.out.2.2.2.2.2.2.2.2.2.2.2.2.2.2)⟩ (fun hHeld => ?_)
                clear hK K
                refine norm_ (a' := ?_) ?_ ?_
                rotate_left
                · show Act.put _ (some 60) _ = _
                  simp only [Act.put, List.setIfInBounds_toArray, List.set_cons_zero, List.set_cons_succ, i64_w, i32_w]
                  rfl
                exact norm_ (by simp only [putAll, Act.put, List.setIfInBounds_toArray, List.set_cons_zero, List.set_cons_succ]) (hCont (.slice (some ⟨W6_9.heap.size, 0, none⟩) 0 0, v60, .slice (some ⟨W6.heap.size, 0, none⟩) 1 1) _ ⟨hGW6_9_0_7, hOW6_9_0_7, hRW6_9_0_7⟩)
            rintro ⟨u53, u60, u62⟩ W7 ⟨hF7, hO7, hR7⟩
            dsimp only at hO7 hR7
            have hHeld := (⟨hF7.cell HS6.out.1, hF7.cell HS6.out.2.1, hF7.cell HS6.out.2.2.1, hF7.cell HS6.out.2.2.2.1, hF7.cell HS6.out.2.2.2.2.1, hF7.cell HS6.out.2.2.2.2.2.1, hF7.cell HS6.out.2.2.2.2.2.2.1, hF7.cell HS6.out.2.2.2.2.2.2.2.1, hF7.cell HS6.out.2.2.2.2.2.2.2.2.1, hF7.cell HS6.out.2.2.2.2.2.2.2.2.2.1, hF7.cell HS6.out.2.2.2.2.2.2.2.2.2.2.1, hF7.cell HS6.out.2.2.2.2.2.2.2.2.2.2.2.1, hF7.cell HS6.out.2.2.2.2.2.2.2.2.2.2.2.2.1, hF7.cell HS6.out.2.2.2.2.2.2.2.2.2.2.2.2.2.1, hF7.cell HS6.out.2.2.2.2.2.2.2.2.2.2.2.2.2.2⟩ : W7.cell? ⟨D, 0, none⟩ = some (.slice (some ⟨g, 0, none⟩) dl.length m) ∧ W7.cell? ⟨X, 0, none⟩ = some (.int .u16 ix) ∧ W7.cell? ⟨X, 1, none⟩ = some (.int .u8 sub) ∧ W7.cell? ⟨X, 2, none⟩ = some (.int .i64 acc) ∧ W7.cell? ⟨X, 3, none⟩ = some (.bool mp) ∧ W7.cell? ⟨X, 4, none⟩ = some (.bool lim) ∧ W7.cell? ⟨X, 5, none⟩ = some (.int .i64 t1) ∧ W7.cell? ⟨X, 6, none⟩ = some (.int .u64 n1) ∧ W7.cell? ⟨X, 7, none⟩ = some (.string b1) ∧ W7.cell? ⟨X, 8, none⟩ = some (.int .i64 t2) ∧ W7.cell? ⟨X, 9, none⟩ = some (.int .u64 n2) ∧ W7.cell? ⟨X, 10, none⟩ = some (.string b2) ∧ W7.cell? ⟨X, 11, none⟩ = some (.int .i64 p1) ∧ W7.cell? ⟨X, 12, none⟩ = some (.int .u64 p2) ∧ W7.cell? ⟨X, 13, none⟩ = some (.string p3))
            refine norm_ (a' := ?_) ?_ ?_
            rotate_left
            · simp only [putAll, Act.put, List.setIfInBounds_toArray, List.set_cons_zero, List.set_cons_succ]
              rfl
            refine one_ (i := 10) (N := some 63) #[true, true, true, true, true, true, true, true, true, true, true, false] rfl rfl (one_of HT_.out (by kernel_rfl)) (by decide) (fun K hK => ?_)
            refine step_append_rd _ (by rfl) (.tmp 60) (.tmp 62) _ (by rfl) W6.heap.size 46 i0 _ 14 120 Tryz.underlying22 hi0 hiz0 hiz1 hiz2 rfl (by omega) u60 (0 + m) ([] ++ ((dl.map E.cells).flatten.take (m * 14))) (by rfl) hO7 u62 1 [.int .u16 ix, .int .u8 sub, .int .i64 acc, .bool mp, .bool lim, .int .i64 t1, .int .u64 n1, .string b1, .int .i64 t2, .int .u64 n2, .string b2, .int .i64 p1, .int .u64 p2, .string p3] (by rfl) hR7 (by simp [Value.oneCell']) (by simp only [maxLen]; omega) (by omega) (by have := hF7.size; omega) ?_
            intro v63 W8 hO8 hg8
            have hF8 : Fr W6 W8 := Fr.grown hF7 hg8 (fun r hr => (hO7.lt r hr).1)
            refine hK.out _ _ ⟨(hF8.cell HS6.out.1), (hF8.cell HS6.out.2.1), (hF8.cell HS6.out.2.2.1), (hF8.cell HS6.out.2.2.2.1), (hF8.cell HS6.out.2.2.2.2.1), (hF8.cell HS6.out.2.2.2.2.2.1), (hF8.cell HS6.out.2.2.2.2.2.2.1), (hF8.cell HS6.out.2.2.2.2.2.2.2.1), (hF8.cell HS6.out.2.2.2.2.2.2.2.2.1), (hF8.cell HS6.out.2.2.2.2.2.2.2.2.2.1), (hF8.cell HS6.out.2.2.2.2.2.2.2.2.2.2.1), (hF8.cell HS6.out.2.2.2.2.2.2.2.2.2.2.2.1), (hF8.cell HS6.out.2.2.2.2.2.2.2.2.2.2.2.2.1), (hF8.cell HS6.out.2.2.2.2.2.2.2.2.2.2.2.2.2.1), (hF8.cell HS6.out.2.2.2.2.2.2.2.2.2.2.2.2.2.2)⟩ (fun hHeld => ?_)
            clear hK K
            refine norm_ (a' := ?_) ?_ ?_
            rotate_left
            · show Act.put _ (some 63) _ = _
              simp only [Act.put, List.setIfInBounds_toArray, List.set_cons_zero, List.set_cons_succ, i64_w, i32_w]
              rfl
            refine pure_ (i := 11) (N := some 9) (v := ?_) (a' := ?_) #[true, true, true, true, true, true, true, true, true, true, true, true] rfl rfl (any_of HT_.out (by kernel_rfl)) (fun _ _ _ h => h) (Or.inl ⟨by rfl, ?_⟩) ?_ ?_
            rotate_left
            · intro w'
              go_simp
              with_reducible rfl
            rotate_left
            · simp only [Act.put, List.setIfInBounds_toArray, List.set_cons_zero, List.set_cons_succ, i64_w, i32_w]
              rfl
            refine done_ (done_of HT_.out (by kernel_rfl)) ?_

            have hD8 := hF8.at_ (hF6.at_ HD3.out)
            have z8 := hF8.size
            have hne8 : some D ≠ v63.ownBlock := fun hh => by have := (hO8.lt D hh.symm).1; omega
            have e8 := cell0 hD8
            have f8 := froz2 hD8 0
            go_wp2_with (at_builtin; refine wpList_append_rd _ (by rfl) (.tmp 65) (.tmp 71) _ (by rfl) W6.heap.size 46 i0 _ 14 120 Tryz.underlying22 hi0 hiz0 hiz1 hiz2 rfl (by omega) v63 (0 + m + 1) ([] ++ ((dl.map E.cells).flatten.take (m * 14)) ++ [.int .u16 ix, .int .u8 sub, .int .i64 acc, .bool mp, .bool lim, .int .i64 t1, .int .u64 n1, .string b1, .int .i64 t2, .int .u64 n2, .string b2, .int .i64 p1, .int .u64 p2, .string p3]) (by rfl) hO8 (_) 0 [] (by rfl) (Rd.empty _ _ _ _ (by have := HCM.out; omega)) (by simp) (by simp only [maxLen]; omega) (by omega) (by omega) ?_; intro v72 W9 hO9 hg9; obtain ⟨g9, c9, hv9, _⟩ := World.ownsRow.form hO9 (by omega); subst hv9; have hF9 : Fr W6 W9 := Fr.grown hF8 hg9 (fun r hr => (hO8.lt r hr).1); have hD9 := hF9.at_ (hF6.at_ HD3.out); have e9 := cell0 hD9; have f9 := froz2 hD9 0)
            go_roundw
            case rel =>
              have hne9 := fun hh => (show False by have := (hO9.lt D hh).1; omega)
              have hcs0 : [] ++ ((dl.map E.cells).flatten.take (m * 14)) ++ [.int .u16 ix, .int .u8 sub, .int .i64 acc, .bool mp, .bool lim, .int .i64 t1, .int .u64 n1, .string b1, .int .i64 t2, .int .u64 n2, .string b2, .int .i64 p1, .int .u64 p2, .string p3] ++ (dl.map E.cells).flatten.drop (m * 14) = ((insE x dl).map E.cells).flatten := by
                rw [insE_at x dl m hm (fun j y hj hy => by have h1 := hz.out j y hj hy; have h2 := HXP.out; omega) (fun y hy h => by have := HST.out y hy; omega), List.map_append, List.flatten_append, List.map_cons, List.flatten_cons, flat_take E.cells 14 E.len dl m hm, flat_drop E.cells 14 E.len dl m hm, HXE.out]
                simp [E.cells]
              have hz0 : (dl.map E.cells).flatten.drop (m * 14) = [] := List.drop_of_length_le (by rw [flat_len E.cells 14 E.len]; omega)
              rw [hz0] at hcs0
              have hcs := hcs0
              have hnl2 : 0 + m + 1 + 0 = (insE x dl).length := by rw [insE_len]; omega
              have hO9' : W9.ownsRow W6.heap.size 46 14 (.slice (some ⟨g9, 0, none⟩) (m + 1) c9) (insE x dl).length ((insE x dl).map E.cells).flatten := by
                rw [← hcs, ← hnl2]
                simpa only [Nat.zero_add, Nat.add_zero] using hO9
              refine ⟨k + 1, _, insE x dl, by omega, by go_num, ?_, Lib.hid (set0 hD9 _), Lib.hid ?_, Lib.hid HIT.out.symm⟩
              · exact Fr.set (((hF.trans hFW).trans hF6).trans hF9) hwD _
              · exact ownsRow_mono (ownsRow_set hO9' ⟨D, 0, none⟩ _ hne9) (by omega)
            case measure =>
              show l.length - ((k : Int) + 1).toNat < l.length - ((k : Int)).toNat
              omega
    · have hkl : k = l.length := by omega
      subst hkl
      have hnl : ¬ ((l.length : Nat) : Int) < (l.length : Nat) := by omega
      have hlen : dl.length ≤ 1024 := by rw [hI.out, insL_len, List.length_take]; omega
      have hDI : dl = insL l := by have := hI.out; rwa [List.take_length] at this
      have hne : lv.ownBlock ≠ some D := fun hh => by
        obtain ⟨cur, hc⟩ := ownsRow_ty hO.out hh
        rw [hD.out] at hc
        simp at hc
      have HR := rreset_any dl D lv _ wr hlen hD.out (Rd.of_own hO.out) hne
      have hwr := hF.size
      have hDlt := (Array.getElem?_eq_some_iff.1 hD.out).1
      have hlvb := fun g hg => hO.out.lt g hg
      have HDI := Lib.hid hDI
      have HLV := Lib.hid hlvb
      have HNE := Lib.hid hne
      clear hlvb hne hDI
      go_wp2_with (go_at_call 144; refine HR.mono ?_; rintro e w5 ⟨rfl, v2, hd5, ho5, hc5⟩)
      go_ret2
      have hF5 : Fr w w5 := Chg.fr hF hc5 hwD
      have hmap : (dl.map fun e => (e, e.df)).map (·.1) = dl := by rw [List.map_map]; exact (List.map_congr_left (fun e _ => rfl)).trans (List.map_id dl)
      refine ⟨D, lv, v2, rfl, hwD, ?_, fun g hg => ⟨(HLV.out g hg).1, Nat.lt_of_lt_of_le (HLV.out g hg).2 hc5.size⟩, fun g hg => ⟨Nat.le_trans hwr (ho5.lt g hg).1, (ho5.lt g hg).2⟩, hF5⟩
      rw [← HDI.out]
      refine ⟨hd5, ?_, ?_, HNE.out, fun hh => ?_⟩
      · rw [hmap]
        exact Rd.chg (Rd.of_own hO.out) hc5 (apart_one HNE.out)
      · have := Rd.of_own ho5
        rw [List.map_map]
        rw [List.length_map]
        exact this
      · have := (ho5.lt D hh).1
        omega

end Go.Proofs.YtmllpkpdfhniaaaGreat
