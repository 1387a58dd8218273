/- The document's dictionary (ref08): how it lies; Reset. The document's dictionary (ref08): what New needs: sorted insertion; parts of slices. -/
import Derived.Test.YtmllpkpdfhniaaaGreatJBRgB
import Derived.Test.YtmllpkpdfhniaaaGreatJAIt
import Derived.Test.YtmllpkpdfhniaaaGreatJABy
import Derived.Test.YtmllpkpdfhniaaaGreatJBRegW
set_option linter.unusedVariables false
set_option linter.unusedSimpArgs false
namespace Go.Proofs.YtmllpkpdfhniaaaGreat
open Go.RowKit Go.Sort

theorem Chg.grown {lo hi : Nat} {w w1 w2 : World} {row : Option Nat} (h : Chg lo hi w w1) (hg : w1.grownBy w2 row) (hr : ∀ r, row = some r → w.heap.size ≤ r) : Chg lo hi w w2 :=
  ⟨hg.os.trans h.os, hg.tape.trans h.tape, hg.output.trans h.output, Nat.le_trans h.size hg.size, fun k hk hc => (hg.block k (Nat.lt_of_lt_of_le hk h.size) (fun e => by have := hr k e.symm; omega)).trans (h.block k hk hc)⟩
theorem Chg.set {lo hi : Nat} {w w1 : World} (h : Chg lo hi w w1) (p : Addr) (u : Value) (hp : lo ≤ p.block ∧ p.block < hi) : Chg lo hi w (w1.setCell p u) :=
  ⟨h.os, h.tape, h.output, by simpa using h.size, fun k hk hc => (heap_setCell_other _ _ _ _ (by omega)).trans (h.block k hk hc)⟩
theorem Chg.frr {lo hi : Nat} {w w1 w2 : World} (h : Chg lo hi w w1) (k : Fr w1 w2) : Chg lo hi w w2 := h.trans (Chg.of_fr k)
theorem Chg.cell {lo hi : Nat} {w w' : World} (h : Chg lo hi w w') {a : Addr} {v : Value} (hc : w.cell? a = some v) (ha : a.block < lo ∨ hi ≤ a.block) : w'.cell? a = some v :=
  (World.cell?_of_block (h.block a.block (World.block_lt_of_cell? w a hc) ha)).trans hc

/-- A dictionary of the document's at block D. -/
structure RD (w : World) (D : Nat) (lv vv : Value) (its : List (E × V)) : Prop where
  d : w.heap[D]? = some (.cells #[lv, vv] 175 (0, 0))
  L : RdE w lv (its.map (·.1))
  Vs : Rd w 3 vv its.length (its.map fun x => x.2.cells).flatten
  neL : lv.ownBlock ≠ some D
  neV : vv.ownBlock ≠ some D
theorem RD.fr {w w' : World} {D : Nat} {lv vv : Value} {its : List (E × V)} (h : RD w D lv vv its) (hf : Fr w w') : RD w' D lv vv its := ⟨hf.at_ h.d, h.L.fr hf, h.Vs.fr hf, h.neL, h.neV⟩
theorem RD.chg {w w' : World} {lo hi D : Nat} {lv vv : Value} {its : List (E × V)} (h : RD w D lv vv its) (hc : Chg lo hi w w') (hD : D < lo ∨ hi ≤ D) (hL : apart lo hi lv) (hV : apart lo hi vv) : RD w' D lv vv its :=
  ⟨hc.at_ h.d hD, Rd.chg h.L hc hL, Rd.chg h.Vs hc hV, h.neL, h.neV⟩
theorem apart_one {v : Value} {D : Nat} (h : v.ownBlock ≠ some D) : apart D (D + 1) v := fun g hg => by
  have : g ≠ D := fun e => h (by rw [hg, e])
  omega
theorem cell0 {w : World} {D : Nat} {a b : Value} {t : TypeId} {fr : Nat × Nat} (h : w.heap[D]? = some (.cells #[a, b] t fr)) : w.cell? ⟨D, 0, none⟩ = some a := by simp [World.cell?, h]
theorem cell1 {w : World} {D : Nat} {a b : Value} {t : TypeId} {fr : Nat × Nat} (h : w.heap[D]? = some (.cells #[a, b] t fr)) : w.cell? ⟨D, 1, none⟩ = some b := by simp [World.cell?, h]
theorem froz2 {w : World} {D : Nat} {arr : Array Value} {t : TypeId} (h : w.heap[D]? = some (.cells arr t (0, 0))) (j : Nat) : w.frozen? ⟨D, j, none⟩ = false := by simp [World.frozen?, h]
theorem set1 {w : World} {D : Nat} {a b : Value} {t : TypeId} (h : w.heap[D]? = some (.cells #[a, b] t (0, 0))) (u : Value) : (w.setCell ⟨D, 1, none⟩ u).heap[D]? = some (.cells #[a, u] t (0, 0)) := heap_setCell_same _ _ _ _ _ _ h
theorem set0 {w : World} {D : Nat} {a b : Value} {t : TypeId} (h : w.heap[D]? = some (.cells #[a, b] t (0, 0))) (u : Value) : (w.setCell ⟨D, 0, none⟩ u).heap[D]? = some (.cells #[u, b] t (0, 0)) := heap_setCell_same _ _ _ _ _ _ h

theorem infoVal : (Tryz.prog.info? 44).map (fun i => (i.zero, i.size, i.bytes)) = some (some V.zero.agg, 3, 32) := by kernel_rfl
theorem infoEntry : (Tryz.prog.info? 46).map (fun i => (i.zero, i.size, i.bytes)) = some (some E.zero.agg, 14, 120) := by kernel_rfl

theorem rreset_nil (D : Nat) (A : Option Addr) (c : Nat) (vv : Value) (w : World) (hd : w.heap[D]? = some (.cells #[.slice A 0 c, vv] 175 (0, 0))) :
    Calls Tryz.prog 144 #[.pointer (some ⟨D, 0, none⟩)] w fun e w' => e = .returned (.tuple #[]) ∧ w'.heap[D]? = some (.cells #[.slice A 0 c, .slice none 0 0] 175 (0, 0)) ∧ Chg D (D + 1) w w' := by
  have h0 := cell0 hd
  have h1 := cell1 hd
  have hf := froz2 hd 1
  have hlt := (Array.getElem?_eq_some_iff.1 hd).1
  have HD := Lib.hid hd
  clear hd
  go_enter Tryz.func144, Tryz.ntmps144
  go_wp2
  refine wp_loop_rounds 1 ?_
  rw [rounds_succ]
  go_wp2
  go_end0
  exact ⟨rfl, set1 HD.out _, (Chg.refl _ _ _).set _ _ ⟨Nat.le_refl _, Nat.lt_succ_self _⟩⟩

namespace Reg
def Rreset4.T : Bool × List (List Nat × List Nat) := (true, [([], []), ([], []), ([1], [1]), ([2], [2]), ([3], [3]), ([], []), ([5], [5]), ([6], [6]), ([7], [7]), ([], []), ([8, 9], [8, 9]), ([10], [10]), ([11], [11]), ([12], [12]), ([4, 13], [4, 13]), ([0, 0, 1, 2, 3, 4, 5, 6, 7, 8, 9, 10, 11, 12, 13, 14], [0]), ([15, 0, 1, 2, 3, 4, 5, 6, 7, 8, 9, 10, 11, 12, 13, 14], [15]), ([16, 14, 14, 0, 1, 2, 3, 4, 5, 6, 7, 8, 9, 10, 11, 12, 13, 14], [14, 16])])
def Rreset4.B : List Nat := [0, 0, 2, 6, 14, 0, 32, 96, 224, 0, 992, 2016, 4064, 8160, 16382, 32767, 65535, 131071]
theorem Rreset4.tab : Reg.rtab .any (Reg.opsOf Tryz.f144 4) = Rreset4.T := by kernel_rfl
theorem Rreset4.bits : Reg.waitsOk Rreset4.T.2 Rreset4.B = true := by kernel_rfl

end Reg
open Reg in
set_option maxRecDepth 100000 in
set_option maxHeartbeats 2000000 in
theorem rreset_walk (es : List E) (D b o c : Nat) (vv : Value) (w : World) (hlen : es.length ≤ 1024) (hcap : es.length ≤ c) (hb : b < w.heap.size) (hbD : b ≠ D) (hd : w.heap[D]? = some (.cells #[.slice (some ⟨b, o, none⟩) es.length c, vv] 175 (0, 0)))
    (hx : ∀ j u, (es.map E.cells).flatten[j]? = some u → w.cell? ⟨b, o + j, none⟩ = some u) :
    Calls Tryz.prog 144 #[.pointer (some ⟨D, 0, none⟩)] w fun e w' => e = .returned (.tuple #[]) ∧ ∃ v2, w'.heap[D]? = some (.cells #[.slice (some ⟨b, o, none⟩) es.length c, v2] 175 (0, 0)) ∧
      w'.ownsRow w.heap.size 44 3 v2 es.length (es.map fun e => e.df.cells).flatten ∧ Chg D (D + 1) w w' := by
  have mx := mixed
  have h0 := cell0 hd
  have h1 := cell1 hd
  have hf := froz2 hd 1
  have hlt := (Array.getElem?_eq_some_iff.1 hd).1
  have HX : Hid (∀ wr k j e u, Chg D (D + 1) w wr → es[k]? = some e → e.cells[j]? = some u → wr.cell? ⟨b, o + (k * 14 + j), none⟩ = some u) :=
    Lib.hid fun wr k j e u hF he hu => hF.cell (hx _ u ((flat_at E.cells 14 E.len es k j e he (List.getElem?_eq_some_iff.1 hu).1).trans hu)) (by show b < D ∨ D + 1 ≤ b; omega)
  have HD := Lib.hid hd
  clear hd hx
  go_enter Tryz.func144, Tryz.ntmps144
  go_wp2
  clear h0 h1 hf
  go_loopw [2] (fun i wr => ∃ (k : Nat) (vk : Value), k ≤ es.length ∧ i = .int .i64 k ∧ Hid (wr.heap[D]? = some (.cells #[.slice (some ⟨b, o, none⟩) es.length c, vk] 175 (0, 0))) ∧ Hid (wr.ownsRow w.heap.size 44 3 vk k ((es.take k).map fun e => e.df.cells).flatten) ∧ Chg D (D + 1) w wr) (fun i _ => es.length - (intOf i).toNat)
  case atStart => exact ⟨0, _, Nat.zero_le _, rfl, Lib.hid (set1 HD.out _), Lib.hid (World.ownsRow_nil _ _ _ _), (Chg.refl _ _ _).set _ _ ⟨Nat.le_refl _, Nat.lt_succ_self _⟩⟩
  case round =>
    obtain ⟨k, vk, hk, rfl, hD, hO, hC⟩ := hrel
    have c0 := cell0 hD.out
    have hwz := hC.size
    by_cases hlt2 : k < es.length
    · obtain ⟨e, he⟩ : ∃ e, es[k]? = some e := ⟨es[k], List.getElem?_eq_getElem hlt2⟩
      have hcell := fun j u => HX.out wr k j e u hC he
      have htk : ((es.take (k + 1)).map fun e => e.df.cells).flatten = ((es.take k).map fun e => e.df.cells).flatten ++ e.df.cells := by rw [List.take_add_one, he]; simp
      have c1 := cell1 hD.out
      have hne : some D ≠ vk.ownBlock := fun hh => by
        obtain ⟨cur, hcur⟩ := ownsRow_ty hO.out hh.symm
        rw [hD.out] at hcur
        simp at hcur
      have hneb : some b ≠ vk.ownBlock := fun hh => by have := (hO.out.lt b hh.symm).1; omega
      have hDlt := (Array.getElem?_eq_some_iff.1 hD.out).1
      obtain ⟨ix, sub, acc, mp, lim, v1, v2, ⟨t3, n3, b3⟩⟩ := e
      have q11 : wr.cell? ⟨b, o + k * 14 + 11, none⟩ = some (.int .i64 t3) := (congrArg (fun z => wr.cell? ⟨b, z, none⟩) (by omega)).trans (hcell 11 _ rfl)
      have q12 : wr.cell? ⟨b, o + k * 14 + 12, none⟩ = some (.int .u64 n3) := (congrArg (fun z => wr.cell? ⟨b, z, none⟩) (by omega)).trans (hcell 12 _ rfl)
      have q13 : wr.cell? ⟨b, o + k * 14 + 13, none⟩ = some (.string b3) := (congrArg (fun z => wr.cell? ⟨b, z, none⟩) (by omega)).trans (hcell 13 _ rfl)
      have g1 : (0 : Int) ≤ (k : Int) := by omega
      have g2 : (k : Int) < (es.length : Int) := by omega
      have HT := Lib.hid htk
      clear hcell he htk
      obtain ⟨i0, hi0, hiz0, hiz1, hiz2⟩ := info_parts infoVal
      go_wp2
      refine start_ (n := 18) (S := fun w' => w'.heap[D]? = some (.cells #[.slice (some ⟨b, o, none⟩) es.length c, vk] 175 (0, 0)) ∧ w'.cell? ⟨D, 0, none⟩ = some (.slice (some ⟨b, o, none⟩) es.length c) ∧ w'.cell? ⟨D, 1, none⟩ = some vk ∧ w'.cell? ⟨b, o + k * 14 + 11, none⟩ = some (.int .i64 t3) ∧ w'.cell? ⟨b, o + k * 14 + 12, none⟩ = some (.int .u64 n3) ∧ w'.cell? ⟨b, o + k * 14 + 13, none⟩ = some (.string b3)) (ds := [17]) #[false, false, false, false, false, false, false, false, false, false, false, false, false, false, false, false, false, false] (by kernel_rfl) rfl rfl ⟨hD.out, c0, c1, q11, q12, q13⟩ (fun hHeld => ?_)
      refine with_tabW Rreset4.tab Rreset4.bits (fun HT_ HW_ => ?_)
      refine pure_ (i := 0) (N := some 15) (v := ?_) (a' := ?_) #[true, false, false, false, false, false, false, false, false, false, false, false, false, false, false, false, false, false] rfl rfl (any_of HT_.out (by kernel_rfl)) (fun _ _ _ h => h) (Or.inl ⟨by rfl, ?_⟩) ?_ ?_
      rotate_left
      · intro w'
        go_simp
        with_reducible rfl
      rotate_left
      · simp only [Act.put, List.setIfInBounds_toArray, List.set_cons_zero, List.set_cons_succ, i64_w, i32_w]
        rfl
      refine pure_ (i := 1) (N := some 16) (v := ?_) (a' := ?_) #[true, true, false, false, false, false, false, false, false, false, false, false, false, false, false, false, false, false] rfl rfl (any_of HT_.out (by kernel_rfl)) (fun _ _ _ h => h) (Or.inl ⟨by rfl, ?_⟩) ?_ ?_
      rotate_left
      · intro w'
        go_simp
        with_reducible rfl
      rotate_left
      · simp only [Act.put, List.setIfInBounds_toArray, List.set_cons_zero, List.set_cons_succ, i64_w, i32_w]
        rfl
      refine pure_ (i := 2) (N := some 17) (v := ?_) (a' := ?_) #[true, true, true, false, false, false, false, false, false, false, false, false, false, false, false, false, false, false] rfl rfl (any_of HT_.out (by kernel_rfl)) (fun _ _ _ h => h) (Or.inl ⟨by rfl, ?_⟩) ?_ ?_
      rotate_left
      · intro w'
        go_simp
        with_reducible rfl
      rotate_left
      · simp only [Act.put, List.setIfInBounds_toArray, List.set_cons_zero, List.set_cons_succ, i64_w, i32_w]
        rfl
      refine pure_ (i := 3) (N := some 18) (v := ?_) (a' := ?_) #[true, true, true, true, false, false, false, false, false, false, false, false, false, false, false, false, false, false] rfl rfl (any_of HT_.out (by kernel_rfl)) (fun _ _ _ h => h) (Or.inl ⟨by rfl, ?_⟩) ?_ ?_
      rotate_left
      · intro w'
        go_simp
        with_reducible rfl
      rotate_left
      · simp only [Act.put, List.setIfInBounds_toArray, List.set_cons_zero, List.set_cons_succ, i64_w, i32_w]
        rfl
      refine pure_ (i := 5) (N := some 20) (v := ?_) (a' := ?_) #[true, true, true, true, false, true, false, false, false, false, false, false, false, false, false, false, false, false] rfl rfl (any_of HT_.out (by kernel_rfl)) (fun _ _ _ h => h) (Or.inl ⟨by rfl, ?_⟩) ?_ ?_
      rotate_left
      · intro w'
        go_simp
        with_reducible rfl
      rotate_left
      · simp only [Act.put, List.setIfInBounds_toArray, List.set_cons_zero, List.set_cons_succ, i64_w, i32_w]
        rfl
      refine pure_ (i := 6) (N := some 21) (v := ?_) (a' := ?_) #[true, true, true, true, false, true, true, false, false, false, false, false, false, false, false, false, false, false] rfl rfl (any_of HT_.out (by kernel_rfl)) (fun _ _ _ h => h) (Or.inl ⟨by rfl, ?_⟩) ?_ ?_
      rotate_left
      · intro w'
        go_simp
        with_reducible rfl
      rotate_left
      · simp only [Act.put, List.setIfInBounds_toArray, List.set_cons_zero, List.set_cons_succ, i64_w, i32_w]
        rfl
      refine pure_ (i := 7) (N := some 22) (v := ?_) (a' := ?_) #[true, true, true, true, false, true, true, true, false, false, false, false, false, false, false, false, false, false] rfl rfl (any_of HT_.out (by kernel_rfl)) (fun _ _ _ h => h) (Or.inl ⟨by rfl, ?_⟩) ?_ ?_
      rotate_left
      · intro w'
        go_simp
        with_reducible rfl
      rotate_left
      · simp only [Act.put, List.setIfInBounds_toArray, List.set_cons_zero, List.set_cons_succ, i64_w, i32_w]
        rfl
      refine pure_ (i := 9) (N := some 24) (v := ?_) (a' := ?_) #[true, true, true, true, false, true, true, true, false, true, false, false, false, false, false, false, false, false] rfl rfl (any_of HT_.out (by kernel_rfl)) (fun _ _ _ h => h) (Or.inl ⟨by rfl, ?_⟩) ?_ ?_
      rotate_left
      · intro w'
        go_simp
        with_reducible rfl
      rotate_left
      · simp only [Act.put, List.setIfInBounds_toArray, List.set_cons_zero, List.set_cons_succ, i64_w, i32_w]
        rfl
      refine take_ (i := 4) (N := some 19) (v := ?_) (a' := ?_) #[true, true, true, true, true, true, true, true, false, true, false, false, false, false, false, false, false, false] rfl rfl (take_ofW HT_.out HW_.out (by kernel_rfl)) (fun _ _ _ h => h) (Or.inl ⟨by rfl, ?_⟩) hHeld ?_ ?_
      rotate_left
      · rintro w' ⟨s0, s1, s2, s3, s4, s5⟩
        go_simp
        with_reducible rfl
      rotate_left
      · simp only [Act.put, List.setIfInBounds_toArray, List.set_cons_zero, List.set_cons_succ, i64_w, i32_w]
        rfl
      refine take_ (i := 8) (N := some 23) (v := ?_) (a' := ?_) #[true, true, true, true, true, true, true, true, true, true, false, false, false, false, false, false, false, false] rfl rfl (take_ofW HT_.out HW_.out (by kernel_rfl)) (fun _ _ _ h => h) (Or.inl ⟨by rfl, ?_⟩) hHeld ?_ ?_
      rotate_left
      · rintro w' ⟨s0, s1, s2, s3, s4, s5⟩
        go_simp
        with_reducible rfl
      rotate_left
      · simp only [Act.put, List.setIfInBounds_toArray, List.set_cons_zero, List.set_cons_succ, i64_w, i32_w]
        rfl
      refine pure_ (i := 10) (N := some 25) (v := ?_) (a' := ?_) #[true, true, true, true, true, true, true, true, true, true, true, false, false, false, false, false, false, false] rfl rfl (any_of HT_.out (by kernel_rfl)) (fun _ _ _ h => h) (Or.inl ⟨by rfl, ?_⟩) ?_ ?_
      rotate_left
      · intro w'
        go_simp
        with_reducible rfl
      rotate_left
      · simp only [Act.put, List.setIfInBounds_toArray, List.set_cons_zero, List.set_cons_succ, i64_w, i32_w]
        rfl
      refine pure_ (i := 11) (N := some 26) (v := ?_) (a' := ?_) #[true, true, true, true, true, true, true, true, true, true, true, true, false, false, false, false, false, false] rfl rfl (any_of HT_.out (by kernel_rfl)) (fun _ _ _ h => h) (Or.inl ⟨by rfl, ?_⟩) ?_ ?_
      rotate_left
      · intro w'
        go_simp
        with_reducible rfl
      rotate_left
      · simp only [Act.put, List.setIfInBounds_toArray, List.set_cons_zero, List.set_cons_succ, i64_w, i32_w]
        rfl
      refine take_ (i := 12) (N := some 27) (v := ?_) (a' := ?_) #[true, true, true, true, true, true, true, true, true, true, true, true, true, false, false, false, false, false] rfl rfl (take_ofW HT_.out HW_.out (by kernel_rfl)) (fun _ _ _ h => h) (Or.inl ⟨by rfl, ?_⟩) hHeld ?_ ?_
      rotate_left
      · rintro w' ⟨s0, s1, s2, s3, s4, s5⟩
        go_simp
        with_reducible rfl
      rotate_left
      · simp only [Act.put, List.setIfInBounds_toArray, List.set_cons_zero, List.set_cons_succ, i64_w, i32_w]
        rfl
      refine one_ (i := 13) (N := some 28) #[true, true, true, true, true, true, true, true, true, true, true, true, true, true, false, false, false, false] rfl rfl (one_of HT_.out (by kernel_rfl)) (by decide) (fun K hK => ?_)
      refine value_ (w1 := ?_) (v := ?_) (by rfl) rfl ?_ ?_
      rotate_left 2
      · go_simp
        constructor
        · rfl
        · rfl
      refine hK.out _ _ ⟨(((Fr.refl _).alloc _).at_ hHeld.1), (((Fr.refl _).alloc _).cell hHeld.2.1), (((Fr.refl _).alloc _).cell hHeld.2.2.1), (((Fr.refl _).alloc _).cell hHeld.2.2.2.1), (((Fr.refl _).alloc _).cell hHeld.2.2.2.2.1), (((Fr.refl _).alloc _).cell hHeld.2.2.2.2.2)⟩ (fun hHeld => ?_)
      clear hK K
      refine norm_ (a' := ?_) ?_ ?_
      rotate_left
      · show Act.put _ (some 28) _ = _
        simp only [Act.put, List.setIfInBounds_toArray, List.set_cons_zero, List.set_cons_succ, i64_w, i32_w]
        rfl
      refine one_ (i := 14) (N := some 29) #[true, true, true, true, true, true, true, true, true, true, true, true, true, true, true, false, false, false] rfl rfl (one_of HT_.out (by kernel_rfl)) (by decide) (fun K hK => ?_)
      refine step_append_lies _ (by rfl) _ _ _ (by rfl) w.heap.size 44 i0 _ 3 32 Tryz.underlying173 hi0 hiz0 hiz1 hiz2 rfl (by omega) vk k ((es.take k).map fun e => e.df.cells).flatten (by rfl) (ownsRow_fr hO.out (((Fr.refl _).drew).alloc _)) ⟨wr.heap.size, 0, none⟩ 1 1 [.int .i64 t3, .int .u64 n3, .string b3] (by rfl) (by rfl) (World.news_of_block (cs := #[.int .i64 t3, .int .u64 n3, .string b3]) (t := 44) (fr := (0, 0)) (heap_alloc_new _ _)) (by simp [Value.oneCell']) (by omega) (by simp only [maxLen]; omega) (by omega) (by simp; omega) _ rfl ?_
      intro g cap w4 hown4 hgrow4 hat4 hlt4
      have hD4 := (hgrow4.block D (by simp; omega) hne).trans hHeld.1
      have z0 := cell1 hD4
      have z1 := froz2 hD4 1
      refine hK.out _ _ ⟨hD4, (cell0 hD4), z0, ((hgrow4.cell_far _ (by simp; omega) hneb).trans hHeld.2.2.2.1), ((hgrow4.cell_far _ (by simp; omega) hneb).trans hHeld.2.2.2.2.1), ((hgrow4.cell_far _ (by simp; omega) hneb).trans hHeld.2.2.2.2.2)⟩ (fun hHeld => ?_)
      clear hK K
      refine norm_ (a' := ?_) ?_ ?_
      rotate_left
      · show Act.put _ (some 29) _ = _
        simp only [Act.put, List.setIfInBounds_toArray, List.set_cons_zero, List.set_cons_succ, i64_w, i32_w]
        rfl
      refine pure_ (i := 15) (N := some 30) (v := ?_) (a' := ?_) #[true, true, true, true, true, true, true, true, true, true, true, true, true, true, true, true, false, false] rfl rfl (any_of HT_.out (by kernel_rfl)) (fun _ _ _ h => h) (Or.inl ⟨by rfl, ?_⟩) ?_ ?_
      rotate_left
      · intro w'
        go_simp
        with_reducible rfl
      rotate_left
      · simp only [Act.put, List.setIfInBounds_toArray, List.set_cons_zero, List.set_cons_succ, i64_w, i32_w]
        rfl
      refine pure_ (i := 16) (N := some 31) (v := ?_) (a' := ?_) #[true, true, true, true, true, true, true, true, true, true, true, true, true, true, true, true, true, false] rfl rfl (any_of HT_.out (by kernel_rfl)) (fun _ _ _ h => h) (Or.inl ⟨by rfl, ?_⟩) ?_ ?_
      rotate_left
      · intro w'
        go_simp
        with_reducible rfl
      rotate_left
      · simp only [Act.put, List.setIfInBounds_toArray, List.set_cons_zero, List.set_cons_succ, i64_w, i32_w]
        rfl
      refine last_ (i := 17) (N := none) #[true, true, true, true, true, true, true, true, true, true, true, true, true, true, true, true, true, true] rfl rfl (one_of HT_.out (by kernel_rfl)) (by decide) (fun K hK => ?_)
      refine skip_ (w1 := ?_) (by rfl) rfl ?_ ?_
      rotate_left
      · go_simp
        rfl
      refine hK.out _ _ ?_
      clear hK K
      refine done_ (done_of HT_.out (by kernel_rfl)) ?_

      go_wp2
      go_roundw
      case rel =>
        refine ⟨k + 1, _, by omega, by go_num, Lib.hid (set1 hD4 _), Lib.hid ?_, ?_⟩
        · rw [HT.out]
          refine ownsRow_set hown4 _ _ (fun hh => ?_)
          obtain ⟨cur, hcur⟩ := ownsRow_ty hown4 hh
          rw [show w4.heap[(⟨D, 1, none⟩ : Addr).block]? = _ from hD4] at hcur
          simp at hcur
        · exact Chg.set (Chg.grown (hC.frr (((Fr.refl _).drew).alloc _)) hgrow4 (fun r hr => (hO.out.lt r hr).1)) _ _ ⟨Nat.le_refl _, Nat.lt_succ_self _⟩
      case measure =>
        show es.length - ((k : Int) + 1).toNat < es.length - ((k : Int)).toNat
        omega
    · have hkl : k = es.length := by omega
      subst hkl
      have hnl : ¬ ((es.length : Nat) : Int) < (es.length : Nat) := by omega
      go_wp2
      go_end0
      refine ⟨rfl, vk, hD.out, ?_, hC⟩
      have := hO.out
      rwa [List.take_length] at this

end Go.Proofs.YtmllpkpdfhniaaaGreat

namespace Go.Proofs.YtmllpkpdfhniaaaGreat
open Go.RowKit Go.Sort

/-- ref08's place: just one block more. -/
theorem rplace_gr (e : E) (he : e.wf) (w : World) : Calls Tryz.prog 143 #[e.agg] w fun r w' => r = .returned (.int .i64 e.pl) ∧ Gr w w' := by
  obtain ⟨⟨h1, h2⟩, ⟨h3, h4⟩, _⟩ := he
  obtain ⟨ix, sub, acc, mp, lim, ⟨t1, n1, b1⟩, ⟨t2, n2, b2⟩, ⟨t3, n3, b3⟩⟩ := e
  unfold E.agg E.pl
  dsimp only at *
  go_enter Tryz.func143, Tryz.ntmps143
  go_wp2
  go_ret
  exact ⟨rfl, by (repeat (with_reducible first | exact Gr.refl _ | assumption | refine Gr.alloc ?_ _ | refine Gr.drew ?_ | refine Gr.drewN ?_ _ | refine Gr.trans ?_ (by assumption)))⟩

theorem rreset_any (es : List E) (D : Nat) (lv vv : Value) (w : World) (hlen : es.length ≤ 1024) (hd : w.heap[D]? = some (.cells #[lv, vv] 175 (0, 0))) (hL : RdE w lv es) (hne : lv.ownBlock ≠ some D) :
    Calls Tryz.prog 144 #[.pointer (some ⟨D, 0, none⟩)] w fun e w' => e = .returned (.tuple #[]) ∧ ∃ v2, w'.heap[D]? = some (.cells #[lv, v2] 175 (0, 0)) ∧
      w'.ownsRow w.heap.size 44 3 v2 es.length (es.map fun e => e.df.cells).flatten ∧ Chg D (D + 1) w w' := by
  obtain ⟨hl, A, c, rfl, hn, hcap, hx⟩ := hL
  have nilc : ∀ A, es = [] → w.heap[D]? = some (.cells #[.slice A es.length c, vv] 175 (0, 0)) → Calls Tryz.prog 144 #[.pointer (some ⟨D, 0, none⟩)] w fun e w' => e = .returned (.tuple #[]) ∧ ∃ v2, w'.heap[D]? = some (.cells #[.slice A es.length c, v2] 175 (0, 0)) ∧
      w'.ownsRow w.heap.size 44 3 v2 es.length (es.map fun e => e.df.cells).flatten ∧ Chg D (D + 1) w w' := fun A h0 hd => by
    subst h0
    exact (rreset_nil D A c vv w hd).mono fun e w' h => ⟨h.1, _, h.2.1, World.ownsRow_nil _ _ _ _, h.2.2⟩
  rcases hx with h0 | ⟨b, o, rfl, hb, hx⟩
  · exact nilc A (List.eq_nil_of_length_eq_zero h0) hd
  · exact rreset_walk es D b o c vv w hlen hn hb (fun h => hne (by rw [h]; rfl)) hd hx

/-! ### Sorted insertion -/
def insE (x : E) : List E → List E
  | [] => [x]
  | y :: l => if y.pl < x.pl then y :: insE x l else x :: y :: l
def insL (l : List E) : List E := l.foldl (fun acc e => insE e.pln acc) []
theorem insE_at (x : E) : ∀ (l : List E) (m : Nat), m ≤ l.length → (∀ j y, j < m → l[j]? = some y → y.pl < x.pl) → (∀ y, l[m]? = some y → ¬ y.pl < x.pl) → insE x l = l.take m ++ x :: l.drop m
  | [], m, hm, h1, h2 => by
    have : m = 0 := by simpa using hm
    subst this
    rfl
  | y :: l, 0, hm, h1, h2 => by
    unfold insE
    rw [if_neg (h2 y rfl)]
    rfl
  | y :: l, m + 1, hm, h1, h2 => by
    unfold insE
    rw [if_pos (h1 0 y (Nat.succ_pos _) rfl), insE_at x l m (by simpa using hm) (fun j z hj hz => h1 (j + 1) z (by omega) (by simpa using hz)) (fun z hz => h2 z (by simpa using hz))]
    rfl
theorem insE_len (x : E) : ∀ l : List E, (insE x l).length = l.length + 1
  | [] => rfl
  | y :: l => by
    unfold insE
    split
    · simp [insE_len x l]
    · simp
theorem insE_mem (x : E) : ∀ (l : List E) (y : E), y ∈ insE x l ↔ y = x ∨ y ∈ l
  | [], y => by simp [insE]
  | z :: l, y => by
    unfold insE
    split
    · simp [insE_mem x l y]
      constructor
      · rintro (h | h | h)
        · exact .inr (.inl h)
        · exact .inl h
        · exact .inr (.inr h)
      · rintro (h | h | h)
        · exact .inr (.inl h)
        · exact .inl h
        · exact .inr (.inr h)
    · simp
theorem insE_perm (x : E) : ∀ l : List E, (insE x l).Perm (x :: l)
  | [] => List.Perm.refl _
  | y :: l => by
    unfold insE
    split
    · exact ((insE_perm x l).cons y).trans (List.Perm.swap x y l)
    · exact List.Perm.refl _
theorem insE_sorted (x : E) : ∀ l : List E, (l.map E.pl).Pairwise (· < ·) → x.pl ∉ l.map E.pl → ((insE x l).map E.pl).Pairwise (· < ·)
  | [], _, _ => by simp [insE]
  | y :: l, h, hn => by
    rw [List.map_cons, List.pairwise_cons] at h
    rw [List.map_cons, List.mem_cons, not_or] at hn
    unfold insE
    split
    · rename_i hlt
      rw [List.map_cons, List.pairwise_cons]
      refine ⟨fun p hp => ?_, insE_sorted x l h.2 hn.2⟩
      obtain ⟨z, hz, rfl⟩ := List.mem_map.1 hp
      rcases (insE_mem x l z).1 hz with rfl | hz
      · exact hlt
      · exact h.1 _ (List.mem_map_of_mem hz)
    · rename_i hlt
      have hxy : x.pl < y.pl := by
        have := hn.1
        omega
      rw [List.map_cons, List.pairwise_cons]
      refine ⟨fun p hp => ?_, ?_⟩
      · rw [List.map_cons, List.mem_cons] at hp
        rcases hp with rfl | hp
        · exact hxy
        · exact Int.lt_trans hxy (h.1 p hp)
      · rw [List.map_cons, List.pairwise_cons]
        exact h
theorem insL_snoc (l : List E) (e : E) : insL (l ++ [e]) = insE e.pln (insL l) := by
  unfold insL
  rw [List.foldl_append]
  rfl
theorem insL_take (l : List E) (k : Nat) (e : E) (h : l[k]? = some e) : insL (l.take (k + 1)) = insE e.pln (insL (l.take k)) := by
  rw [List.take_add_one, h]
  exact insL_snoc _ _
theorem snoc_ind {α : Type} {P : List α → Prop} (h0 : P []) (h1 : ∀ l x, P l → P (l ++ [x])) (l : List α) : P l := by
  rw [← List.reverse_reverse l]
  induction l.reverse with
  | nil => exact h0
  | cons x l ih => rw [List.reverse_cons]; exact h1 _ _ ih
theorem insL_perm (l : List E) : (insL l).Perm (l.map E.pln) := by
  refine snoc_ind (P := fun l => (insL l).Perm (l.map E.pln)) (List.Perm.refl _) (fun l x ih => ?_) l
  rw [insL_snoc, List.map_append]
  refine (insE_perm _ _).trans ?_
  refine ((ih.cons _).trans ?_)
  exact (List.perm_append_singleton _ _).symm
theorem pln_pl (e : E) : e.pln.pl = e.pl := rfl
theorem insL_sorted (l : List E) : (l.map E.pl).Nodup → ((insL l).map E.pl).Pairwise (· < ·) := by
  refine snoc_ind (P := fun l => (l.map E.pl).Nodup → ((insL l).map E.pl).Pairwise (· < ·)) (fun _ => by simp [insL]) (fun l x ih hd => ?_) l
  rw [List.map_append, List.nodup_append] at hd
  rw [insL_snoc]
  refine insE_sorted _ _ (ih hd.1) ?_
  intro hm
  have hp := (insL_perm l).map E.pl
  rw [List.map_map] at hp
  have h2 : x.pln.pl ∈ l.map (E.pl ∘ E.pln) := (hp.mem_iff).1 hm
  have h3 : l.map (E.pl ∘ E.pln) = l.map E.pl := List.map_congr_left fun e _ => rfl
  rw [h3, pln_pl] at h2
  exact hd.2.2 _ h2 _ (by simp) rfl
theorem insL_len (l : List E) : (insL l).length = l.length := by simpa using (insL_perm l).length_eq
theorem insL_wf {l : List E} (h : ∀ e ∈ l, e.wf) : ∀ e ∈ insL l, e.wf := fun e he => by
  have := ((insL_perm l).mem_iff).1 he
  obtain ⟨x, hx, rfl⟩ := List.mem_map.1 this
  exact E.pln_wf (h x hx)

/-! ### Parts of slices -/
theorem flat_take {α : Type} (f : α → List Value) (s : Nat) (hf : ∀ x, (f x).length = s) : ∀ (l : List α) (m : Nat), m ≤ l.length → (l.map f).flatten.take (m * s) = ((l.take m).map f).flatten
  | l, 0, _ => by simp
  | [], m + 1, h => by simp at h
  | x :: l, m + 1, h => by
    rw [List.map_cons, List.flatten_cons, List.take_succ_cons, List.map_cons, List.flatten_cons, Nat.succ_mul, List.take_append, hf x]
    rw [List.take_of_length_le (by rw [hf x]; omega), show m * s + s - s = m * s by omega, flat_take f s hf l m (by simpa using h)]
theorem flat_drop {α : Type} (f : α → List Value) (s : Nat) (hf : ∀ x, (f x).length = s) : ∀ (l : List α) (m : Nat), m ≤ l.length → (l.map f).flatten.drop (m * s) = ((l.drop m).map f).flatten
  | l, 0, _ => by simp
  | [], m + 1, h => by simp at h
  | x :: l, m + 1, h => by
    rw [List.map_cons, List.flatten_cons, List.drop_succ_cons, Nat.succ_mul, List.drop_append, hf x]
    rw [List.drop_of_length_le (by rw [hf x]; omega), show m * s + s - s = m * s by omega, flat_drop f s hf l m (by simpa using h), List.nil_append]
theorem Rd.take {w : World} {sz n c m : Nat} {A : Option Addr} {cs : List Value} (h : Rd w sz (.slice A n c) n cs) (hm : m ≤ n) : Rd w sz (.slice A m c) m (cs.take (m * sz)) := by
  obtain ⟨hl, A', c', hv, hn, hcap, h⟩ := h
  cases hv
  refine ⟨?_, _, _, rfl, by omega, hcap, ?_⟩
  · rw [List.length_take, hl, Nat.min_eq_left (Nat.mul_le_mul_right _ hm)]
  · rcases h with h0 | ⟨b, o, rfl, hb, hh⟩
    · exact .inl (by omega)
    · exact .inr ⟨b, o, rfl, hb, fun j u hu => hh j u (by rw [List.getElem?_take] at hu; split at hu; exact hu; cases hu)⟩
theorem Rd.drop {w : World} {sz n c m b o : Nat} {cs : List Value} (h : Rd w sz (.slice (some ⟨b, o, none⟩) n c) n cs) (hm : m ≤ n) : Rd w sz (.slice (some ⟨b, o + m * sz, none⟩) (n - m) (c - m)) (n - m) (cs.drop (m * sz)) := by
  obtain ⟨hl, A', c', hv, hn, hcap, h⟩ := h
  cases hv
  refine ⟨?_, _, _, rfl, by omega, by omega, ?_⟩
  · rw [List.length_drop, hl, Nat.sub_mul]
  · rcases h with h0 | ⟨b, o, hA, hb, hh⟩
    · exact .inl (by omega)
    · cases hA
      exact .inr ⟨_, _, rfl, hb, fun j u hu => by
        rw [List.getElem?_drop] at hu
        have := hh _ u hu
        rwa [← Nat.add_assoc] at this⟩
theorem Rd.empty (w : World) (sz : Nat) (A : Option Addr) (c : Nat) (hc : c ≤ 9223372036854775807) : Rd w sz (.slice A 0 c) 0 [] := ⟨by simp, A, c, rfl, Nat.zero_le _, hc, .inl rfl⟩
theorem ecs_one (l : List E) : ∀ x ∈ (l.map E.cells).flatten, x.oneCell' = true := fun x hx => by
  obtain ⟨y, hy, hxy⟩ := List.mem_flatten.1 hx
  obtain ⟨e, _, rfl⟩ := List.mem_map.1 hy
  simp only [E.cells, List.mem_cons, List.not_mem_nil, or_false] at hxy
  rcases hxy with rfl | rfl | rfl | rfl | rfl | rfl | rfl | rfl | rfl | rfl | rfl | rfl | rfl | rfl <;> rfl

end Go.Proofs.YtmllpkpdfhniaaaGreat
