/- The program's od.New: the walk. The program's od.New: its contract. -/
import Derived.Test.YtmllpkpdfhniaaaGreatJAOdS
import Derived.Test.YtmllpkpdfhniaaaGreatJBRegW
set_option linter.unusedVariables false
set_option linter.unusedSimpArgs false
namespace Go.Proofs.YtmllpkpdfhniaaaGreat
open Go.RowKit Go.Sort

/-- What New hands back where the entries can be a dictionary. -/
def Made (w : World) (l : List E) (e : Ending) (w' : World) : Prop := ∃ db lo hi vl its, e = .returned (.tuple #[.pointer (some ⟨db, 0, none⟩), .int .i64 0]) ∧ w.heap.size ≤ lo ∧ PD w' db lo hi vl its ∧
  (its.map (·.2)).Perm (l.map fun e => (e.pln, plainV e.df)) ∧ (its.map plS).Pairwise (· < ·) ∧ Fr w w'

theorem plainV_wf {v : V} (h : v.wf) : (plainV v).wf := by
  unfold plainV
  split
  · exact ⟨h.1, h.2⟩
  · split
    · exact ⟨by show (0 : Int) ≤ 0; omega, by show (0 : Int) ≤ _; omega⟩
    · exact h
theorem E.pln_wf {e : E} (h : e.wf) : e.pln.wf := ⟨h.1, h.2.1, h.2.2.1, h.2.2.2.1, plainV_wf h.2.2.2.2⟩

namespace Reg
def Odn9.T : Bool × List (List Nat × List Nat) := (true, [([], []), ([], []), ([1], [1]), ([2], [2]), ([3], [3]), ([], []), ([], []), ([6], [6]), ([5, 7], [5, 7]), ([8], [8]), ([9], [9]), ([4, 10], [4, 10]), ([0, 0, 1, 2, 3, 4, 5, 6, 7, 8, 9, 10, 11], [0]), ([12, 0, 1, 2, 3, 4, 5, 6, 7, 8, 9, 10, 11], [12]), ([13, 11, 11, 0, 1, 2, 3, 4, 5, 6, 7, 8, 9, 10, 11], [11, 13])])
def Odn9.B : List Nat := [0, 0, 2, 6, 14, 0, 0, 64, 224, 480, 992, 2046, 4095, 8191, 16383]
theorem Odn9.tab : Reg.rtab .any (Reg.opsOf Tryz.f89 9) = Odn9.T := by kernel_rfl
theorem Odn9.bits : Reg.waitsOk Odn9.T.2 Odn9.B = true := by kernel_rfl

end Reg
open Reg in
set_option maxRecDepth 100000 in
set_option maxHeartbeats 4000000 in
theorem odnew_walk (l : List E) (hwf : ∀ e ∈ l, e.wf) (b o c : Nat) (hlc : l.length ≤ c) (hn : ¬ (1024 : Int) < l.length) (w : World) (hb : b < w.heap.size) (h0 : 0 < l.length)
    (hx : ∀ j u, (l.map E.cells).flatten[j]? = some u → w.cell? ⟨b, o + j, none⟩ = some u)
    (HC : ∀ w', Fr w w' → Calls Tryz.prog 137 #[.slice (some ⟨b, o, none⟩) l.length c] w' fun e w'' => e = .returned (.int .i64 0) ∧ Fr w' w'')
    (hdl : (l.map E.pl).Nodup) : Calls Tryz.prog 89 #[.slice (some ⟨b, o, none⟩) l.length c] w fun e w' => Made w l e w' := by
  have HX := Lib.hid hx
  have HW := Lib.hid hwf
  have mx := mixed
  clear hx hwf
  go_enter Tryz.func89, Tryz.ntmps89
  go_wp2_with (first | (go_at_call 137; refine (HC _ (by (repeat (with_reducible first | exact Fr.refl _ | assumption | refine Fr.alloc ?_ _ | refine Fr.drew ?_ | refine Fr.drewN ?_ _ | refine Fr.set ?_ (by first | (simp; done) | (simp; omega)) _ | refine Fr.trans ?_ (by assumption))))).mono ?_; rintro e w1 ⟨rfl, hF1⟩; have hz1 := hF1.size; (try simp at hz1); have hc1 := hF1.cells; have hf1 := hF1.froz) | fail)
  clear HC
  go_loopw [17] (fun i wr => ∃ k : Nat, k ≤ l.length ∧ i = .int .i64 k ∧ Fr w1 wr ∧ ∃ vl its, PD wr w1.heap.size w1.heap.size wr.heap.size vl its ∧ its.map (·.2) = (l.take k).map fun e => (e.pln, plainV e.df)) (fun i _ => l.length - (intOf i).toNat)
  case atStart => exact ⟨0, Nat.zero_le _, rfl, (Fr.refl _).alloc _, _, [], by simpa using PD.made w1, rfl⟩
  case round =>
    obtain ⟨k, hk, rfl, hF, vl, its, hP, hI⟩ := hrel
    by_cases hlt : k < l.length
    · obtain ⟨e, he⟩ : ∃ e, l[k]? = some e := ⟨l[k], List.getElem?_eq_getElem hlt⟩
      have hcell : ∀ j u, e.cells[j]? = some u → wr.cell? ⟨b, o + (k * 14 + j), none⟩ = some u := fun j u hu => ((hF1.trans hF).cells b _ hb).trans (HX.out _ u ((flat_at E.cells 14 E.len l k j e he (List.getElem?_eq_some_iff.1 hu).1).trans hu))
      have hlen : its.length = k := by have := congrArg List.length hI; simpa [Nat.min_eq_left hk] using this
      have htk : (l.take (k + 1)).map (fun e => (e.pln, plainV e.df)) = its.map (·.2) ++ [(e.pln, plainV e.df)] := by rw [List.take_add_one, he, hI]; simp
      have HP := Plain_any e.df
      clear he
      obtain ⟨ix, sub, acc, mp, lim, ⟨t1, n1, b1⟩, ⟨t2, n2, b2⟩, ⟨t3, n3, b3⟩⟩ := e
      unfold E.pln at htk
      dsimp only at HP htk
      generalize plainV ⟨t3, n3, b3⟩ = pv at *
      obtain ⟨p1, p2, p3⟩ := pv
      unfold V.agg at HP
      dsimp only at HP
      have hk0 : wr.cell? ⟨b, o + k * 14, none⟩ = some (.int .u16 ix) := (congrArg (fun z => wr.cell? ⟨b, z, none⟩) (by omega)).trans (hcell 0 _ rfl)
      have hk1 : wr.cell? ⟨b, o + k * 14 + 1, none⟩ = some (.int .u8 sub) := (congrArg (fun z => wr.cell? ⟨b, z, none⟩) (by omega)).trans (hcell 1 _ rfl)
      have hk2 : wr.cell? ⟨b, o + k * 14 + 2, none⟩ = some (.int .i64 acc) := (congrArg (fun z => wr.cell? ⟨b, z, none⟩) (by omega)).trans (hcell 2 _ rfl)
      have hk3 : wr.cell? ⟨b, o + k * 14 + 3, none⟩ = some (.bool mp) := (congrArg (fun z => wr.cell? ⟨b, z, none⟩) (by omega)).trans (hcell 3 _ rfl)
      have hk4 : wr.cell? ⟨b, o + k * 14 + 4, none⟩ = some (.bool lim) := (congrArg (fun z => wr.cell? ⟨b, z, none⟩) (by omega)).trans (hcell 4 _ rfl)
      have hk5 : wr.cell? ⟨b, o + k * 14 + 5, none⟩ = some (.int .i64 t1) := (congrArg (fun z => wr.cell? ⟨b, z, none⟩) (by omega)).trans (hcell 5 _ rfl)
      have hk6 : wr.cell? ⟨b, o + k * 14 + 6, none⟩ = some (.int .u64 n1) := (congrArg (fun z => wr.cell? ⟨b, z, none⟩) (by omega)).trans (hcell 6 _ rfl)
      have hk7 : wr.cell? ⟨b, o + k * 14 + 7, none⟩ = some (.string b1) := (congrArg (fun z => wr.cell? ⟨b, z, none⟩) (by omega)).trans (hcell 7 _ rfl)
      have hk8 : wr.cell? ⟨b, o + k * 14 + 8, none⟩ = some (.int .i64 t2) := (congrArg (fun z => wr.cell? ⟨b, z, none⟩) (by omega)).trans (hcell 8 _ rfl)
      have hk9 : wr.cell? ⟨b, o + k * 14 + 9, none⟩ = some (.int .u64 n2) := (congrArg (fun z => wr.cell? ⟨b, z, none⟩) (by omega)).trans (hcell 9 _ rfl)
      have hk10 : wr.cell? ⟨b, o + k * 14 + 10, none⟩ = some (.string b2) := (congrArg (fun z => wr.cell? ⟨b, z, none⟩) (by omega)).trans (hcell 10 _ rfl)
      have hk11 : wr.cell? ⟨b, o + k * 14 + 11, none⟩ = some (.int .i64 t3) := (congrArg (fun z => wr.cell? ⟨b, z, none⟩) (by omega)).trans (hcell 11 _ rfl)
      have hk12 : wr.cell? ⟨b, o + k * 14 + 12, none⟩ = some (.int .u64 n3) := (congrArg (fun z => wr.cell? ⟨b, z, none⟩) (by omega)).trans (hcell 12 _ rfl)
      have hk13 : wr.cell? ⟨b, o + k * 14 + 13, none⟩ = some (.string b3) := (congrArg (fun z => wr.cell? ⟨b, z, none⟩) (by omega)).trans (hcell 13 _ rfl)
      clear hcell
      have hbd := hP.bd
      have hbdlt : w1.heap.size < wr.heap.size := hP.bd.2
      have HPl := Lib.hid hP
      have HIl := Lib.hid hI
      have HTl := Lib.hid htk
      clear hP hI htk
      go_wp2_with (first | (go_at_call 114; refine (HP _).mono ?_; rintro e w2 ⟨rfl, hF2⟩; have hz2 := hF2.size; (try simp at hz2); (try (have hz2_0 : wr.heap.size < w2.heap.size := (by omega))); have hc2 := hF2.cells; have hf2 := hF2.froz; have hg2_0 : ∀ o, w2.frozen? ⟨wr.heap.size, o, none⟩ = false := (by intro o; rw [hf2 _ _ (by first | (simp; done) | (simp; omega) | omega)]; (first | (simp; done) | (simp [*]; done) | go_simp)); have hk2_0 : w2.cell? ⟨wr.heap.size, 0, none⟩ = some (.int .u16 ix) := (by rw [hc2 _ _ (by first | (simp; done) | (simp; omega) | omega)]; (first | (simp; done) | (simp [*]; done) | go_simp)); have hk2_1 : w2.cell? ⟨wr.heap.size, 1, none⟩ = some (.int .u8 sub) := (by rw [hc2 _ _ (by first | (simp; done) | (simp; omega) | omega)]; (first | (simp; done) | (simp [*]; done) | go_simp)); have hk2_2 : w2.cell? ⟨wr.heap.size, 2, none⟩ = some (.int .i64 acc) := (by rw [hc2 _ _ (by first | (simp; done) | (simp; omega) | omega)]; (first | (simp; done) | (simp [*]; done) | go_simp)); have hk2_3 : w2.cell? ⟨wr.heap.size, 3, none⟩ = some (.bool mp) := (by rw [hc2 _ _ (by first | (simp; done) | (simp; omega) | omega)]; (first | (simp; done) | (simp [*]; done) | go_simp)); have hk2_4 : w2.cell? ⟨wr.heap.size, 4, none⟩ = some (.bool lim) := (by rw [hc2 _ _ (by first | (simp; done) | (simp; omega) | omega)]; (first | (simp; done) | (simp [*]; done) | go_simp)); have hk2_5 : w2.cell? ⟨wr.heap.size, 5, none⟩ = some (.int .i64 t1) := (by rw [hc2 _ _ (by first | (simp; done) | (simp; omega) | omega)]; (first | (simp; done) | (simp [*]; done) | go_simp)); have hk2_6 : w2.cell? ⟨wr.heap.size, 6, none⟩ = some (.int .u64 n1) := (by rw [hc2 _ _ (by first | (simp; done) | (simp; omega) | omega)]; (first | (simp; done) | (simp [*]; done) | go_simp)); have hk2_7 : w2.cell? ⟨wr.heap.size, 7, none⟩ = some (.string b1) := (by rw [hc2 _ _ (by first | (simp; done) | (simp; omega) | omega)]; (first | (simp; done) | (simp [*]; done) | go_simp)); have hk2_8 : w2.cell? ⟨wr.heap.size, 8, none⟩ = some (.int .i64 t2) := (by rw [hc2 _ _ (by first | (simp; done) | (simp; omega) | omega)]; (first | (simp; done) | (simp [*]; done) | go_simp)); have hk2_9 : w2.cell? ⟨wr.heap.size, 9, none⟩ = some (.int .u64 n2) := (by rw [hc2 _ _ (by first | (simp; done) | (simp; omega) | omega)]; (first | (simp; done) | (simp [*]; done) | go_simp)); have hk2_10 : w2.cell? ⟨wr.heap.size, 10, none⟩ = some (.string b2) := (by rw [hc2 _ _ (by first | (simp; done) | (simp; omega) | omega)]; (first | (simp; done) | (simp [*]; done) | go_simp)); have hk2_11 : w2.cell? ⟨wr.heap.size, 11, none⟩ = some (.int .i64 t3) := (by rw [hc2 _ _ (by first | (simp; done) | (simp; omega) | omega)]; (first | (simp; done) | (simp [*]; done) | go_simp)); have hk2_12 : w2.cell? ⟨wr.heap.size, 12, none⟩ = some (.int .u64 n3) := (by rw [hc2 _ _ (by first | (simp; done) | (simp; omega) | omega)]; (first | (simp; done) | (simp [*]; done) | go_simp)); have hk2_13 : w2.cell? ⟨wr.heap.size, 13, none⟩ = some (.string b3) := (by rw [hc2 _ _ (by first | (simp; done) | (simp; omega) | omega)]; (first | (simp; done) | (simp [*]; done) | go_simp))) | fail)
      obtain ⟨W3, hW3⟩ : ∃ W3, W3 = (((w2.setCell ⟨wr.heap.size, 11, none⟩ (.int .i64 p1)).setCell ⟨wr.heap.size, 12, none⟩ (.int .u64 p2)).setCell ⟨wr.heap.size, 13, none⟩ (.string p3)) := ⟨_, rfl⟩
      rw [← hW3]
      have hFW : Fr wr W3 := by rw [hW3]; (repeat (with_reducible first | exact Fr.refl _ | assumption | refine Fr.alloc ?_ _ | refine Fr.drew ?_ | refine Fr.drewN ?_ _ | refine Fr.set ?_ (by first | (simp; done) | (simp; omega)) _ | refine Fr.trans ?_ (by assumption)))
      have hz3 : wr.heap.size < W3.heap.size := by rw [hW3]; simp; omega
      have m0 : W3.cell? ⟨wr.heap.size, 0, none⟩ = some (.int .u16 ix) := by rw [hW3]; go_simp
      have m1 : W3.cell? ⟨wr.heap.size, 1, none⟩ = some (.int .u8 sub) := by rw [hW3]; go_simp
      have m2 : W3.cell? ⟨wr.heap.size, 2, none⟩ = some (.int .i64 acc) := by rw [hW3]; go_simp
      have m3 : W3.cell? ⟨wr.heap.size, 3, none⟩ = some (.bool mp) := by rw [hW3]; go_simp
      have m4 : W3.cell? ⟨wr.heap.size, 4, none⟩ = some (.bool lim) := by rw [hW3]; go_simp
      have m5 : W3.cell? ⟨wr.heap.size, 5, none⟩ = some (.int .i64 t1) := by rw [hW3]; go_simp
      have m6 : W3.cell? ⟨wr.heap.size, 6, none⟩ = some (.int .u64 n1) := by rw [hW3]; go_simp
      have m7 : W3.cell? ⟨wr.heap.size, 7, none⟩ = some (.string b1) := by rw [hW3]; go_simp
      have m8 : W3.cell? ⟨wr.heap.size, 8, none⟩ = some (.int .i64 t2) := by rw [hW3]; go_simp
      have m9 : W3.cell? ⟨wr.heap.size, 9, none⟩ = some (.int .u64 n2) := by rw [hW3]; go_simp
      have m10 : W3.cell? ⟨wr.heap.size, 10, none⟩ = some (.string b2) := by rw [hW3]; go_simp
      have m11 : W3.cell? ⟨wr.heap.size, 11, none⟩ = some (.int .i64 p1) := by rw [hW3]; go_simp
      have m12 : W3.cell? ⟨wr.heap.size, 12, none⟩ = some (.int .u64 p2) := by rw [hW3]; go_simp
      have m13 : W3.cell? ⟨wr.heap.size, 13, none⟩ = some (.string p3) := by rw [hW3]; go_simp
      have hPW := HPl.out.fr hFW
      have hvl := hPW.cell
      have hfz := hPW.froz 0
      have hrow := hPW.row
      have hbl := hPW.bl
      have hneB : some w1.heap.size ≠ vl.ownBlock := fun h => (hbl _ h.symm).2 rfl
      have hneX : some wr.heap.size ≠ vl.ownBlock := fun h => Nat.lt_irrefl _ (hbl _ h.symm).1
      have hnw := World.new_ne W3 _ hvl
      have hlw : w1.heap.size < W3.heap.size := by omega
      have hnw2 : w1.heap.size ≠ W3.heap.size + 1 := by omega
      have hnw3 : W3.heap.size + 1 ≠ w1.heap.size := by omega
      have hnw4 : W3.heap.size ≠ w1.heap.size := by omega
      have hvlF : Hid (∀ w', Fr W3 w' → w'.cell? ⟨w1.heap.size, 0, none⟩ = some vl) := fun w' h => h.cell hvl
      have hfzF : Hid (∀ w', Fr W3 w' → w'.frozen? ⟨w1.heap.size, 0, none⟩ = false) := fun w' h => (h.froz _ _ (Nat.lt_trans hbdlt hz3)).trans hfz
      clear hW3
      obtain ⟨i0, hi0, hiz0, hiz1, hiz2⟩ := info_parts infoPtr
      refine start_ (n := 15) (S := fun w' => w'.cell? ⟨wr.heap.size, 0, none⟩ = some (.int .u16 ix) ∧ w'.cell? ⟨wr.heap.size, 1, none⟩ = some (.int .u8 sub) ∧ w'.cell? ⟨wr.heap.size, 2, none⟩ = some (.int .i64 acc) ∧ w'.cell? ⟨wr.heap.size, 3, none⟩ = some (.bool mp) ∧ w'.cell? ⟨wr.heap.size, 4, none⟩ = some (.bool lim) ∧ w'.cell? ⟨wr.heap.size, 5, none⟩ = some (.int .i64 t1) ∧ w'.cell? ⟨wr.heap.size, 6, none⟩ = some (.int .u64 n1) ∧ w'.cell? ⟨wr.heap.size, 7, none⟩ = some (.string b1) ∧ w'.cell? ⟨wr.heap.size, 8, none⟩ = some (.int .i64 t2) ∧ w'.cell? ⟨wr.heap.size, 9, none⟩ = some (.int .u64 n2) ∧ w'.cell? ⟨wr.heap.size, 10, none⟩ = some (.string b2) ∧ w'.cell? ⟨wr.heap.size, 11, none⟩ = some (.int .i64 p1) ∧ w'.cell? ⟨wr.heap.size, 12, none⟩ = some (.int .u64 p2) ∧ w'.cell? ⟨wr.heap.size, 13, none⟩ = some (.string p3) ∧ w'.cell? ⟨w1.heap.size, 0, none⟩ = some vl) (ds := [14]) #[false, false, false, false, false, false, false, false, false, false, false, false, false, false, false] (by kernel_rfl) rfl rfl ⟨((Fr.refl W3).drew.cell m0), ((Fr.refl W3).drew.cell m1), ((Fr.refl W3).drew.cell m2), ((Fr.refl W3).drew.cell m3), ((Fr.refl W3).drew.cell m4), ((Fr.refl W3).drew.cell m5), ((Fr.refl W3).drew.cell m6), ((Fr.refl W3).drew.cell m7), ((Fr.refl W3).drew.cell m8), ((Fr.refl W3).drew.cell m9), ((Fr.refl W3).drew.cell m10), ((Fr.refl W3).drew.cell m11), ((Fr.refl W3).drew.cell m12), ((Fr.refl W3).drew.cell m13), ((Fr.refl W3).drew.cell hvl)⟩ (fun hHeld => ?_)
      refine with_tabW Odn9.tab Odn9.bits (fun HT_ HW_ => ?_)
      generalize hW4 : W3.drew = W4 at hHeld ⊢
      have hF4 : Fr W3 W4 := by rw [← hW4]; exact (Fr.refl W3).drew
      have hs4 : W4.heap.size = W3.heap.size := by rw [← hW4]; simp
      clear hW4
      have hPW4 := hPW.fr hF4
      have hrow4 := hPW4.row
      have hbl4 := hPW4.bl
      refine pure_ (i := 0) (N := some 25) (v := ?_) (a' := ?_) #[true, false, false, false, false, false, false, false, false, false, false, false, false, false, false] rfl rfl (any_of HT_.out (by kernel_rfl)) (fun _ _ _ h => h) (Or.inl ⟨by rfl, ?_⟩) ?_ ?_
      rotate_left
      · intro w'
        go_simp
        with_reducible rfl
      rotate_left
      · simp only [Act.put, List.setIfInBounds_toArray, List.set_cons_zero, List.set_cons_succ, i64_w, i32_w]
        rfl
      refine pure_ (i := 1) (N := some 26) (v := ?_) (a' := ?_) #[true, true, false, false, false, false, false, false, false, false, false, false, false, false, false] rfl rfl (any_of HT_.out (by kernel_rfl)) (fun _ _ _ h => h) (Or.inl ⟨by rfl, ?_⟩) ?_ ?_
      rotate_left
      · intro w'
        go_simp
        with_reducible rfl
      rotate_left
      · simp only [Act.put, List.setIfInBounds_toArray, List.set_cons_zero, List.set_cons_succ, i64_w, i32_w]
        rfl
      refine pure_ (i := 2) (N := some 27) (v := ?_) (a' := ?_) #[true, true, true, false, false, false, false, false, false, false, false, false, false, false, false] rfl rfl (any_of HT_.out (by kernel_rfl)) (fun _ _ _ h => h) (Or.inl ⟨by rfl, ?_⟩) ?_ ?_
      rotate_left
      · intro w'
        go_simp
        with_reducible rfl
      rotate_left
      · simp only [Act.put, List.setIfInBounds_toArray, List.set_cons_zero, List.set_cons_succ, i64_w, i32_w]
        rfl
      refine pure_ (i := 3) (N := some 28) (v := ?_) (a' := ?_) #[true, true, true, true, false, false, false, false, false, false, false, false, false, false, false] rfl rfl (any_of HT_.out (by kernel_rfl)) (fun _ _ _ h => h) (Or.inl ⟨by rfl, ?_⟩) ?_ ?_
      rotate_left
      · intro w'
        go_simp
        with_reducible rfl
      rotate_left
      · simp only [Act.put, List.setIfInBounds_toArray, List.set_cons_zero, List.set_cons_succ, i64_w, i32_w]
        rfl
      refine pure_ (i := 6) (N := some 31) (v := ?_) (a' := ?_) #[true, true, true, true, false, false, true, false, false, false, false, false, false, false, false] rfl rfl (any_of HT_.out (by kernel_rfl)) (fun _ _ _ h => h) (Or.inl ⟨by rfl, ?_⟩) ?_ ?_
      rotate_left
      · intro w'
        go_simp
        with_reducible rfl
      rotate_left
      · simp only [Act.put, List.setIfInBounds_toArray, List.set_cons_zero, List.set_cons_succ, i64_w, i32_w]
        rfl
      refine take_ (i := 4) (N := some 29) (v := ?_) (a' := ?_) #[true, true, true, true, true, false, true, false, false, false, false, false, false, false, false] rfl rfl (take_ofW HT_.out HW_.out (by kernel_rfl)) (fun _ _ _ h => h) (Or.inl ⟨by rfl, ?_⟩) hHeld ?_ ?_
      rotate_left
      · rintro w' ⟨s0, s1, s2, s3, s4, s5, s6, s7, s8, s9, s10, s11, s12, s13, s14⟩
        go_simp
        with_reducible rfl
      rotate_left
      · simp only [Act.put, List.setIfInBounds_toArray, List.set_cons_zero, List.set_cons_succ, i64_w, i32_w]
        rfl
      refine take_ (i := 5) (N := some 30) (v := ?_) (a' := ?_) #[true, true, true, true, true, true, true, false, false, false, false, false, false, false, false] rfl rfl (take_ofW HT_.out HW_.out (by kernel_rfl)) (fun _ _ _ h => h) (Or.inl ⟨by rfl, ?_⟩) hHeld ?_ ?_
      rotate_left
      · rintro w' ⟨s0, s1, s2, s3, s4, s5, s6, s7, s8, s9, s10, s11, s12, s13, s14⟩
        go_simp
        with_reducible rfl
      rotate_left
      · simp only [Act.put, List.setIfInBounds_toArray, List.set_cons_zero, List.set_cons_succ, i64_w, i32_w]
        rfl
      refine take_ (i := 7) (N := some 32) (v := ?_) (a' := ?_) #[true, true, true, true, true, true, true, true, false, false, false, false, false, false, false] rfl rfl (take_ofW HT_.out HW_.out (by kernel_rfl)) (fun _ _ _ h => h) (Or.inl ⟨by rfl, ?_⟩) hHeld ?_ ?_
      rotate_left
      · rintro w' ⟨s0, s1, s2, s3, s4, s5, s6, s7, s8, s9, s10, s11, s12, s13, s14⟩
        go_simp
        with_reducible rfl
      rotate_left
      · simp only [Act.put, List.setIfInBounds_toArray, List.set_cons_zero, List.set_cons_succ, i64_w, i32_w]
        rfl
      refine pure_ (i := 8) (N := some 33) (v := ?_) (a' := ?_) #[true, true, true, true, true, true, true, true, true, false, false, false, false, false, false] rfl rfl (any_of HT_.out (by kernel_rfl)) (fun _ _ _ h => h) (Or.inl ⟨by rfl, ?_⟩) ?_ ?_
      rotate_left
      · intro w'
        go_simp
        with_reducible rfl
      rotate_left
      · simp only [Act.put, List.setIfInBounds_toArray, List.set_cons_zero, List.set_cons_succ, i64_w, i32_w]
        rfl
      refine one_ (i := 9) (N := some 34) #[true, true, true, true, true, true, true, true, true, true, false, false, false, false, false] rfl rfl (one_of HT_.out (by kernel_rfl)) (by decide) (fun K hK => ?_)
      refine value_ (w1 := W4.alloc (.cells #[.int .u16 ix, .int .u8 sub, .int .i64 acc, .bool mp, .bool lim, .int .i64 t1, .int .u64 n1, .string b1, .int .i64 t2, .int .u64 n2, .string b2, .int .i64 p1, .int .u64 p2, .string p3, .int .i64 p1, .int .u64 p2, .string p3] 165)) (v := .pointer (some ⟨W4.heap.size, 0, none⟩)) (by rfl) rfl ?_ ?_
      · go_simp
      refine hK.out _ _ ⟨((hF4.alloc _).cell m0), ((hF4.alloc _).cell m1), ((hF4.alloc _).cell m2), ((hF4.alloc _).cell m3), ((hF4.alloc _).cell m4), ((hF4.alloc _).cell m5), ((hF4.alloc _).cell m6), ((hF4.alloc _).cell m7), ((hF4.alloc _).cell m8), ((hF4.alloc _).cell m9), ((hF4.alloc _).cell m10), ((hF4.alloc _).cell m11), ((hF4.alloc _).cell m12), ((hF4.alloc _).cell m13), ((hF4.alloc _).cell hvl)⟩ (fun hHeld => ?_)
      clear hK K
      refine norm_ (a' := ?_) ?_ ?_
      rotate_left
      · show Act.put _ (some 34) _ = _
        simp only [Act.put, List.setIfInBounds_toArray, List.set_cons_zero, List.set_cons_succ, i64_w, i32_w]
        rfl
      refine one_ (i := 10) (N := some 35) #[true, true, true, true, true, true, true, true, true, true, true, false, false, false, false] rfl rfl (one_of HT_.out (by kernel_rfl)) (by decide) (fun K hK => ?_)
      refine value_ (w1 := (W4.alloc (.cells #[.int .u16 ix, .int .u8 sub, .int .i64 acc, .bool mp, .bool lim, .int .i64 t1, .int .u64 n1, .string b1, .int .i64 t2, .int .u64 n2, .string b2, .int .i64 p1, .int .u64 p2, .string p3, .int .i64 p1, .int .u64 p2, .string p3] 165)).alloc (.cells #[.pointer (some ⟨W4.heap.size, 0, none⟩)] 163)) (v := .slice (some ⟨W4.heap.size + 1, 0, none⟩) 1 1) (by rfl) rfl ?_ ?_
      · go_simp
      refine hK.out _ _ ⟨(((hF4.alloc _).alloc _).cell m0), (((hF4.alloc _).alloc _).cell m1), (((hF4.alloc _).alloc _).cell m2), (((hF4.alloc _).alloc _).cell m3), (((hF4.alloc _).alloc _).cell m4), (((hF4.alloc _).alloc _).cell m5), (((hF4.alloc _).alloc _).cell m6), (((hF4.alloc _).alloc _).cell m7), (((hF4.alloc _).alloc _).cell m8), (((hF4.alloc _).alloc _).cell m9), (((hF4.alloc _).alloc _).cell m10), (((hF4.alloc _).alloc _).cell m11), (((hF4.alloc _).alloc _).cell m12), (((hF4.alloc _).alloc _).cell m13), (((hF4.alloc _).alloc _).cell hvl)⟩ (fun hHeld => ?_)
      clear hK K
      refine norm_ (a' := ?_) ?_ ?_
      rotate_left
      · show Act.put _ (some 35) _ = _
        simp only [Act.put, List.setIfInBounds_toArray, List.set_cons_zero, List.set_cons_succ, i64_w, i32_w]
        rfl
      refine one_ (i := 11) (N := some 36) #[true, true, true, true, true, true, true, true, true, true, true, true, false, false, false] rfl rfl (one_of HT_.out (by kernel_rfl)) (by decide) (fun K hK => ?_)
      refine step_append_lies _ (by rfl) (.tmp 29) (.tmp 35) _ (by rfl) w1.heap.size 163 i0 _ 1 8 Tryz.underlying160 hi0 hiz0 hiz1 hiz2 rfl (by omega) vl its.length (ptrs its) (by rfl) ((hrow4.alloc _).alloc _) ⟨W4.heap.size + 1, 0, none⟩ 1 1 [.pointer (some ⟨W4.heap.size, 0, none⟩)] (by rfl) (by rfl) (World.news_of_block (cs := #[.pointer (some ⟨W4.heap.size, 0, none⟩)]) (t := 163) (fr := (0, 0)) (alloc2_new _ _ _)) (by simp [Value.oneCell']) (by omega) (by simp only [maxLen]; omega) (by omega) (by simp; omega) (W4.heap.size + 2) (by simp) ?_
      intro g cap w4 hown4 hgrow hat hlt4
      have hfz4 : w4.frozen? ⟨w1.heap.size, 0, none⟩ = false := (hgrow.frozen_far _ (by simp; omega) hneB).trans (hfzF.out _ ((hF4.alloc _).alloc _))
      have hvl4 : w4.cell? ⟨w1.heap.size, 0, none⟩ = some vl := (hgrow.cell_far _ (by simp; omega) hneB).trans (hvlF.out _ ((hF4.alloc _).alloc _))
      refine hK.out _ _ ⟨((hgrow.cell_far _ (by simp; omega) hneX).trans (((hF4.alloc _).alloc _).cell m0)), ((hgrow.cell_far _ (by simp; omega) hneX).trans (((hF4.alloc _).alloc _).cell m1)), ((hgrow.cell_far _ (by simp; omega) hneX).trans (((hF4.alloc _).alloc _).cell m2)), ((hgrow.cell_far _ (by simp; omega) hneX).trans (((hF4.alloc _).alloc _).cell m3)), ((hgrow.cell_far _ (by simp; omega) hneX).trans (((hF4.alloc _).alloc _).cell m4)), ((hgrow.cell_far _ (by simp; omega) hneX).trans (((hF4.alloc _).alloc _).cell m5)), ((hgrow.cell_far _ (by simp; omega) hneX).trans (((hF4.alloc _).alloc _).cell m6)), ((hgrow.cell_far _ (by simp; omega) hneX).trans (((hF4.alloc _).alloc _).cell m7)), ((hgrow.cell_far _ (by simp; omega) hneX).trans (((hF4.alloc _).alloc _).cell m8)), ((hgrow.cell_far _ (by simp; omega) hneX).trans (((hF4.alloc _).alloc _).cell m9)), ((hgrow.cell_far _ (by simp; omega) hneX).trans (((hF4.alloc _).alloc _).cell m10)), ((hgrow.cell_far _ (by simp; omega) hneX).trans (((hF4.alloc _).alloc _).cell m11)), ((hgrow.cell_far _ (by simp; omega) hneX).trans (((hF4.alloc _).alloc _).cell m12)), ((hgrow.cell_far _ (by simp; omega) hneX).trans (((hF4.alloc _).alloc _).cell m13)), hvl4⟩ (fun hHeld => ?_)
      clear hK K
      refine norm_ (a' := ?_) ?_ ?_
      rotate_left
      · show Act.put _ (some 36) _ = _
        simp only [Act.put, List.setIfInBounds_toArray, List.set_cons_zero, List.set_cons_succ, i64_w, i32_w]
        rfl
      refine pure_ (i := 12) (N := some 37) (v := ?_) (a' := ?_) #[true, true, true, true, true, true, true, true, true, true, true, true, true, false, false] rfl rfl (any_of HT_.out (by kernel_rfl)) (fun _ _ _ h => h) (Or.inl ⟨by rfl, ?_⟩) ?_ ?_
      rotate_left
      · intro w'
        go_simp
        with_reducible rfl
      rotate_left
      · simp only [Act.put, List.setIfInBounds_toArray, List.set_cons_zero, List.set_cons_succ, i64_w, i32_w]
        rfl
      refine pure_ (i := 13) (N := some 38) (v := ?_) (a' := ?_) #[true, true, true, true, true, true, true, true, true, true, true, true, true, true, false] rfl rfl (any_of HT_.out (by kernel_rfl)) (fun _ _ _ h => h) (Or.inl ⟨by rfl, ?_⟩) ?_ ?_
      rotate_left
      · intro w'
        go_simp
        with_reducible rfl
      rotate_left
      · simp only [Act.put, List.setIfInBounds_toArray, List.set_cons_zero, List.set_cons_succ, i64_w, i32_w]
        rfl
      refine last_ (i := 14) (N := none) #[true, true, true, true, true, true, true, true, true, true, true, true, true, true, true] rfl rfl (one_of HT_.out (by kernel_rfl)) (by decide) (fun K hK => ?_)
      refine skip_ (w1 := ?_) (by rfl) rfl ?_ ?_
      rotate_left
      · go_simp
        rfl
      refine hK.out _ _ ?_
      clear hK K
      refine done_ (done_of HT_.out (by kernel_rfl)) ?_

      · skip
        go_wp2
        go_roundw
        case rel =>
          have hp := PD.push hPW4 ⟨ix, sub, acc, mp, lim, ⟨t1, n1, b1⟩, ⟨t2, n2, b2⟩, ⟨p1, p2, p3⟩⟩ ⟨p1, p2, p3⟩ (.cells #[.pointer (some ⟨W4.heap.size, 0, none⟩)] 163) (by rfl) hgrow hown4 hat hlt4
          rw [hlen] at hp
          refine ⟨k + 1, by omega, by go_num, ?_, _, _, hp, ?_⟩
          · exact Fr.set (Fr.grown (Fr.trans (hF.trans hFW) ((hF4.alloc _).alloc _)) hgrow (fun r hr => (HPl.out.row.lt r hr).1)) (Nat.le_refl _) _
          · rw [List.map_append]; exact HTl.out.symm
        case measure =>
          show l.length - ((k : Int) + 1).toNat < l.length - ((k : Int)).toNat
          omega
    · have hkl : k = l.length := by omega
      subst hkl
      rw [List.take_length] at hI
      have hne : its ≠ [] := by
        rintro rfl
        have := congrArg List.length hI
        simp at this
        omega
      have hlen : its.length = l.length := by have := congrArg List.length hI; simpa using this
      have hwi : ∀ x ∈ its, x.2.1.wf := fun x hx => by
        have h1 : x.2 ∈ its.map (·.2) := List.mem_map_of_mem hx
        rw [hI] at h1
        obtain ⟨e, he, hee⟩ := List.mem_map.1 h1
        rw [← hee]
        exact E.pln_wf (HW.out e he)
      have hpi : its.map plS = l.map E.pl := by
        have h1 := congrArg (List.map fun y : E × V => y.1.pl) hI
        rw [List.map_map, List.map_map] at h1
        exact h1
      have hS := sort_PD hP hne (by omega) hwi (by rw [hpi]; exact hdl) (Nat.le_of_lt hP.bd.2)
      have hvl := hP.cell
      have hHI := Lib.hid hI
      clear hI hP hpi hwi hlen hne hdl
      have hnl : ¬ ((l.length : Nat) : Int) < (l.length : Nat) := by omega
      go_wp2_with (go_at_call 138; refine hS.mono ?_; rintro e w5 ⟨rfl, its', hpm, hps, hPD, hB5⟩)
      go_ret2
      exact ⟨_, _, _, _, its', rfl, hz1, hPD, by rw [← hHI.out]; exact hpm.map _, hps, RowKit.Below.trans (hF1.trans hF) (RowKit.Below.mono hB5 hz1)⟩

end Go.Proofs.YtmllpkpdfhniaaaGreat

namespace Go.Proofs.YtmllpkpdfhniaaaGreat
open Go.RowKit Go.Sort

theorem firstE_0 : ∀ (l : List E) (seen : List Int), firstE seen l = 0 → (∀ e ∈ l, entE e = 0 ∧ e.pl ∉ seen) ∧ (l.map E.pl).Nodup
  | [], _, _ => by simp
  | e :: l, seen, h => by
    unfold firstE at h
    by_cases h1 : entE e ≠ 0
    · rw [if_pos h1] at h; exact absurd h h1
    · rw [if_neg h1] at h
      by_cases h2 : e.pl ∈ seen
      · rw [if_pos h2] at h; exact absurd h (by decide)
      · rw [if_neg h2] at h
        obtain ⟨h3, h4⟩ := firstE_0 l _ h
        refine ⟨fun x hx => ?_, ?_⟩
        · rcases List.mem_cons.1 hx with rfl | hx
          · exact ⟨by simpa using h1, h2⟩
          · exact ⟨(h3 x hx).1, fun hh => (h3 x hx).2 (List.mem_cons_of_mem _ hh)⟩
        · rw [List.map_cons, List.nodup_cons]
          refine ⟨fun hh => ?_, h4⟩
          obtain ⟨x, hx, hxe⟩ := List.mem_map.1 hh
          exact (h3 x hx).2 (by rw [hxe]; exact List.mem_cons_self)
theorem chkL_0 {l : List E} (h : chkL l = 0) : l.length ≤ 1024 ∧ firstE [] l = 0 := by
  unfold chkL at h
  by_cases h1 : 1024 < l.length
  · rw [if_pos h1] at h; exact absurd h (by decide)
  · rw [if_neg h1] at h; exact ⟨by omega, h⟩

set_option maxHeartbeats 1000000 in
theorem odnew_nil (A : Option Addr) (c : Nat) (w : World) (HC : ∀ w', Fr w w' → Calls Tryz.prog 137 #[.slice A 0 c] w' fun e w'' => e = .returned (.int .i64 0) ∧ Fr w' w'') :
    Calls Tryz.prog 89 #[.slice A 0 c] w fun e w' => Made w [] e w' := by
  have HS : ∀ w', Calls Tryz.prog 138 #[.slice none 0 0, .func (.func 139) #[] #[]] w' fun e w'' => e = .returned (.tuple #[]) ∧ w'' = w' := fun w' => AnyF.slices_SortFunc_none Tryz.sortL0 none 0 _ w'
  go_enter Tryz.func89, Tryz.ntmps89
  go_wp2_with (first | (go_at_call 137; refine (HC _ (by (repeat (with_reducible first | exact Fr.refl _ | assumption | refine Fr.alloc ?_ _ | refine Fr.drew ?_ | refine Fr.drewN ?_ _ | refine Fr.set ?_ (by first | (simp; done) | (simp; omega)) _ | refine Fr.trans ?_ (by assumption))))).mono ?_; rintro e w1 ⟨rfl, hF1⟩; have hz1 := hF1.size; (try simp at hz1); have hc1 := hF1.cells; have hf1 := hF1.froz) | fail)
  clear HC
  refine wp_loop_rounds 1 ?_
  rw [rounds_succ]
  go_wp2_with (go_at_call 138; refine (HS _).mono ?_; rintro e w5 ⟨rfl, rfl⟩)
  go_ret2
  exact ⟨_, _, _, _, [], rfl, hz1, PD.made w1, List.Perm.refl _, List.Pairwise.nil, by (repeat (with_reducible first | exact Fr.refl _ | assumption | refine Fr.alloc ?_ _ | refine Fr.drew ?_ | refine Fr.drewN ?_ _ | refine Fr.set ?_ (by first | (simp; done) | (simp; omega)) _ | refine Fr.trans ?_ (by assumption)))⟩

/-- od.New. -/
theorem odNew_any (l : List E) (hwf : ∀ e ∈ l, e.wf) (v : Value) (w : World) (h : RdE w v l) :
    Calls Tryz.prog 89 #[v] w fun e w' => (chkL l ≠ 0 ∧ e = .returned (.tuple #[.pointer none, .int .i64 (chkL l)]) ∧ Fr w w') ∨ (chkL l = 0 ∧ Made w l e w') := by
  by_cases hc : chkL l = 0
  · have HC := fun w' (hf : Fr w w') => odc_any l hwf v w' (h.fr hf)
    rw [hc] at HC
    obtain ⟨h1, h2⟩ := chkL_0 hc
    obtain ⟨h3, h4⟩ := firstE_0 l [] h2
    obtain ⟨hl, A, c, rfl, hn, hcap, hx⟩ := h
    refine Calls.mono ?_ fun e w' h => Or.inr ⟨hc, h⟩
    rcases hx with hx | ⟨b, o, rfl, hb, hx⟩
    · have : l = [] := List.eq_nil_of_length_eq_zero hx
      subst this
      exact odnew_nil A c w HC
    · by_cases h0 : l.length = 0
      · have : l = [] := List.eq_nil_of_length_eq_zero h0
        subst this
        exact odnew_nil _ c w HC
      · exact odnew_walk l hwf b o c hn (by omega) w hb (by omega) hx HC h4
  · exact (odnew_bad l hwf v w h hc).mono fun e w' h => Or.inl ⟨hc, h⟩

end Go.Proofs.YtmllpkpdfhniaaaGreat
