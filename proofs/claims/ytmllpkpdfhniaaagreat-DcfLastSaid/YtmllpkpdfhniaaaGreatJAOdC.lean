/- The program's od.check, Check: what is wrong with entries. -/
import Derived.Test.YtmllpkpdfhniaaaGreatJAMap
set_option linter.unusedVariables false
set_option linter.unusedSimpArgs false
namespace Go.Proofs.YtmllpkpdfhniaaaGreat
open Go.RowKit

theorem flat_at {α : Type} (f : α → List Value) (s : Nat) (hf : ∀ x, (f x).length = s) : ∀ (l : List α) (k j : Nat) (x : α), l[k]? = some x → j < s → (l.map f).flatten[k * s + j]? = (f x)[j]?
  | [], k, j, x, h, _ => by simp at h
  | y :: l, 0, j, x, h, hj => by
    simp at h
    subst h
    simp only [List.map_cons, List.flatten_cons, Nat.zero_mul, Nat.zero_add]
    rw [List.getElem?_append_left (by rw [hf]; exact hj)]
  | y :: l, k + 1, j, x, h, hj => by
    simp only [List.getElem?_cons_succ] at h
    simp only [List.map_cons, List.flatten_cons]
    rw [List.getElem?_append_right (by rw [hf, Nat.succ_mul]; omega), hf, show (k + 1) * s + j - s = k * s + j from by rw [Nat.succ_mul]; omega]
    exact flat_at f s hf l k j x h hj
theorem flat_len {α : Type} (f : α → List Value) (s : Nat) (hf : ∀ x, (f x).length = s) (l : List α) : (l.map f).flatten.length = l.length * s := by
  induction l with
  | nil => simp
  | cons y l ih => simp only [List.map_cons, List.flatten_cons, List.length_append, ih, hf, List.length_cons, Nat.succ_mul]; omega
theorem E.len (e : E) : e.cells.length = 14 := rfl
/-- Entries that are read. -/
def RdE (w : World) (v : Value) (l : List E) : Prop := Rd w 14 v l.length (l.map E.cells).flatten
theorem RdE.fr {w w' : World} {v : Value} {l : List E} (h : RdE w v l) (hf : Fr w w') : RdE w' v l := Rd.fr h hf

theorem hid_trans {a b c : Int} (h : Hid (a = b)) (h' : b = c) : Hid (a = c) := Lib.hid (h.out.trans h')
theorem odc_long (A : Option Addr) (n c : Nat) (hn : (1024 : Int) < n) (w : World) : Calls Tryz.prog 137 #[.slice A n c] w fun e w' => e = .returned (.int .i64 2) ∧ Fr w w' := by
  go_enter Tryz.func137, Tryz.ntmps137
  go_wp2
  go_ret
  exact ⟨rfl, by (repeat (with_reducible first | exact Fr.refl _ | assumption | refine Fr.alloc ?_ _ | refine Fr.drew ?_ | refine Fr.drewN ?_ _ | refine Fr.set ?_ (by first | (simp; done) | (simp; omega)) _ | refine Fr.trans ?_ (by assumption)))⟩

/-- What is still to be looked at: from a place on. -/
def restE (l : List E) (k : Nat) : Int := firstE ((l.take k).reverse.map E.pl) (l.drop k)

theorem pl_inj {x y x' y' : Int} (h1 : 0 ≤ y ∧ y ≤ 255) (h2 : 0 ≤ y' ∧ y' ≤ 255) : x * 256 + y = x' * 256 + y' ↔ (x, y) = (x', y') := by
  rw [Prod.mk.injEq]; omega
theorem restE_next (l : List E) (hw : ∀ e ∈ l, e.wf) (k : Nat) (e : E) (he : l[k]? = some e) :
    restE l k = if entE e ≠ 0 then entE e else if (e.ix, e.sub) ∈ (l.take k).map (fun e => (e.ix, e.sub)) then 5 else restE l (k + 1) := by
  have hlt := (List.getElem?_eq_some_iff.1 he).1
  have hd : l.drop k = e :: l.drop (k + 1) := by rw [List.drop_eq_getElem_cons hlt]; congr 1; exact (List.getElem?_eq_some_iff.1 he).2
  have ht : l.take (k + 1) = l.take k ++ [e] := by rw [List.take_add_one, he]; rfl
  have hm : e.pl ∈ (l.take k).reverse.map E.pl ↔ (e.ix, e.sub) ∈ (l.take k).map (fun e => (e.ix, e.sub)) := by
    simp only [List.mem_map, List.mem_reverse]
    constructor
    · rintro ⟨x, hx, hxe⟩
      exact ⟨x, hx, (pl_inj (hw x (List.mem_of_mem_take hx)).2.1 (hw e (List.mem_of_getElem? he)).2.1).1 hxe⟩
    · rintro ⟨x, hx, hxe⟩
      exact ⟨x, hx, (pl_inj (hw x (List.mem_of_mem_take hx)).2.1 (hw e (List.mem_of_getElem? he)).2.1).2 hxe⟩
  unfold restE
  rw [hd, ht]
  simp only [firstE, hm, List.reverse_append, List.map_append, List.reverse_cons, List.reverse_nil, List.nil_append, List.map_cons, List.map_nil, List.singleton_append]

set_option maxHeartbeats 2000000 in
theorem odc_walk (l : List E) (hwf : ∀ e ∈ l, e.wf) (b o c : Nat) (hlc : l.length ≤ c) (hn : ¬ (1024 : Int) < l.length) (w : World) (hb : b < w.heap.size)
    (hx : ∀ j u, (l.map E.cells).flatten[j]? = some u → w.cell? ⟨b, o + j, none⟩ = some u) :
    Calls Tryz.prog 137 #[.slice (some ⟨b, o, none⟩) l.length c] w fun e w' => e = .returned (.int .i64 (firstE [] l)) ∧ Fr w w' := by
  have hmm := @run_makeMap Tryz.prog
  have HX := Lib.hid hx
  have HW := Lib.hid hwf
  clear hx hwf
  go_enter Tryz.func137, Tryz.ntmps137
  go_wp2
  go_loopw [5, 6, 13] (fun _ _ i wr => ∃ k : Nat, k ≤ l.length ∧ i = .int .i64 k ∧ Fr w wr ∧ HasMap wr w.heap.size ((l.take k).map fun e => (e.ix, e.sub)) ∧ Hid (firstE [] l = restE l k)) (fun _ _ i _ => l.length - (intOf i).toNat)
  case atStart => exact ⟨0, Nat.zero_le _, rfl, (Fr.refl _).alloc _, HasMap.made w, rfl⟩
  case round =>
    obtain ⟨k, hk, rfl, hF, hM, hR⟩ := hrel
    by_cases hlt : k < l.length
    · obtain ⟨e, he⟩ : ∃ e, l[k]? = some e := ⟨l[k], List.getElem?_eq_getElem hlt⟩
      have hcell : ∀ j u, e.cells[j]? = some u → wr.cell? ⟨b, o + (k * 14 + j), none⟩ = some u := fun j u hu => (hF.cells b _ hb).trans (HX.out _ u ((flat_at E.cells 14 E.len l k j e he (List.getElem?_eq_some_iff.1 hu).1).trans hu))
      have hEW := HW.out e (List.mem_of_getElem? he)
      have HE := entry_any e hEW
      have HA := fun w => (at_any e w).mono fun _ _ h => (⟨h.1, h.2.fr⟩ : _ ∧ Fr w _)
      have hnx : restE l k = if entE e ≠ 0 then entE e else if (e.ix, e.sub) ∈ (l.take k).map (fun e => (e.ix, e.sub)) then 5 else restE l (k + 1) := restE_next l HW.out k e he
      have htk : ((l.take (k + 1)).map fun e => (e.ix, e.sub)) = ((l.take k).map fun e => (e.ix, e.sub)) ++ [(e.ix, e.sub)] := by rw [List.take_add_one, he]; simp
      clear hEW he
      obtain ⟨ix, sub, acc, mp, lim, ⟨t1, n1, b1⟩, ⟨t2, n2, b2⟩, ⟨t3, n3, b3⟩⟩ := e
      have hwr := hF.size
      have hML := hM.lt
      unfold E.agg at HE HA
      dsimp only at HE HA hnx htk
      generalize hen : entE ⟨ix, sub, acc, mp, lim, ⟨t1, n1, b1⟩, ⟨t2, n2, b2⟩, ⟨t3, n3, b3⟩⟩ = en at *
      generalize hks : (l.take k).map (fun e => (e.ix, e.sub)) = ks at *
      have hk0 : wr.cell? ⟨b, o + k * 14, none⟩ = some (.int .u16 ix) := (congrArg (fun z => wr.cell? ⟨b, z, none⟩) (by omega)).trans (hcell 0 _ rfl)
      have hk1 : wr.cell? ⟨b, o + k * 14 + 1, none⟩ = some (.int .u8 sub) := (congrArg (fun z => wr.cell? ⟨b, z, none⟩) (by omega)).trans (hcell 1 _ rfl)
      have hk2 : wr.cell? ⟨b, o + k * 14 + 2, none⟩ = some (.int .i64 acc) := (congrArg (fun z => wr.cell? ⟨b, z, none⟩) (by omega)).trans (hcell 2 _ rfl)
      have hk3 : wr.cell? ⟨b, o + k * 14 + 3, none⟩ = some (.bool mp) := (congrArg (fun z => wr.cell? ⟨b, z, none⟩) (by omega)).trans (hcell 3 _ rfl)
      have hk4 : wr.cell? ⟨b, o + k * 14 + 4, none⟩ = some (.bool lim) := (congrArg (fun z => wr.cell? ⟨b, z, none⟩) (by omega)).trans (hcell 4 _ rfl)
      have hk5 : wr.cell? ⟨b, o + k * 14 + 5, none⟩ = some (.int .i64 t1) := (congrArg (fun z => wr.cell? ⟨b, z, none⟩) (by omega)).trans (hcell 5 _ rfl)
      have hk6 : wr.cell? ⟨b, o + k * 14 + 6, none⟩ = some (.int .u64 n1) := (congrArg (fun z => wr.cell? ⟨b, z, none⟩) (by omega)).trans (hcell 6 _ rfl)
      have hk7 : wr.cell? ⟨b, o + k * 14 + 7, none⟩ = some (.string b1) := (congrArg (fun z => wr.cell? ⟨b, z, none⟩) (by omega)).trans (hcell 7 _ rfl)
      have hk8 : wr.cell? ⟨b, o + k * 14 + 8, none⟩ = some (.int .i64 t2) := (congrArg (fun z => wr.cell? ⟨b, z, none⟩) (by omega)).trans (hcell 8 _ rfl)
      have hk9 : wr.cell? ⟨b, o + k * 14 + 9, none⟩ = some (.int .u64 n2) := (congrArg (fun z => wr.cell? ⟨b, z, none⟩) (by omega)).trans (hcell 9 _ rfl)
      have hk10 : wr.cell? ⟨b, o + k * 14 + 10, none⟩ = some (.string b2) := (congrArg (fun z => wr.cell? ⟨b, z, none⟩) (by omega)).trans (hcell 10 _ rfl)
      have hk11 : wr.cell? ⟨b, o + k * 14 + 11, none⟩ = some (.int .i64 t3) := (congrArg (fun z => wr.cell? ⟨b, z, none⟩) (by omega)).trans (hcell 11 _ rfl)
      have hk12 : wr.cell? ⟨b, o + k * 14 + 12, none⟩ = some (.int .u64 n3) := (congrArg (fun z => wr.cell? ⟨b, z, none⟩) (by omega)).trans (hcell 12 _ rfl)
      have hk13 : wr.cell? ⟨b, o + k * 14 + 13, none⟩ = some (.string b3) := (congrArg (fun z => wr.cell? ⟨b, z, none⟩) (by omega)).trans (hcell 13 _ rfl)
      clear hcell
      by_cases h0 : en = 0
      · have h0' := bne_false h0
        rw [if_neg (by simpa using h0)] at hnx
        by_cases h1 : (ix, sub) ∈ ks
        · rw [if_pos h1] at hnx
          go_wp2_with (first | (go_at_call 185; refine (HE _).mono ?_; rintro e w1 ⟨rfl, hF1⟩; have hz1 := hF1.size; (try simp at hz1); (try (have hz1_0 : wr.heap.size < w1.heap.size := (by omega))); have hc1 := hF1.cells; have hf1 := hF1.froz; have hg1_0 : ∀ o, w1.frozen? ⟨wr.heap.size, o, none⟩ = false := (by intro o; rw [hf1 _ _ (by first | (simp; done) | (simp; omega) | omega)]; (first | (simp; done) | (simp [*]; done) | go_simp)); have hk1_0 : w1.cell? ⟨wr.heap.size, 0, none⟩ = some (.int .u16 ix) := (by rw [hc1 _ _ (by first | (simp; done) | (simp; omega) | omega)]; (first | (simp; done) | (simp [*]; done) | go_simp)); have hk1_1 : w1.cell? ⟨wr.heap.size, 1, none⟩ = some (.int .u8 sub) := (by rw [hc1 _ _ (by first | (simp; done) | (simp; omega) | omega)]; (first | (simp; done) | (simp [*]; done) | go_simp)); have hk1_2 : w1.cell? ⟨wr.heap.size, 2, none⟩ = some (.int .i64 acc) := (by rw [hc1 _ _ (by first | (simp; done) | (simp; omega) | omega)]; (first | (simp; done) | (simp [*]; done) | go_simp)); have hk1_3 : w1.cell? ⟨wr.heap.size, 3, none⟩ = some (.bool mp) := (by rw [hc1 _ _ (by first | (simp; done) | (simp; omega) | omega)]; (first | (simp; done) | (simp [*]; done) | go_simp)); have hk1_4 : w1.cell? ⟨wr.heap.size, 4, none⟩ = some (.bool lim) := (by rw [hc1 _ _ (by first | (simp; done) | (simp; omega) | omega)]; (first | (simp; done) | (simp [*]; done) | go_simp)); have hk1_5 : w1.cell? ⟨wr.heap.size, 5, none⟩ = some (.int .i64 t1) := (by rw [hc1 _ _ (by first | (simp; done) | (simp; omega) | omega)]; (first | (simp; done) | (simp [*]; done) | go_simp)); have hk1_6 : w1.cell? ⟨wr.heap.size, 6, none⟩ = some (.int .u64 n1) := (by rw [hc1 _ _ (by first | (simp; done) | (simp; omega) | omega)]; (first | (simp; done) | (simp [*]; done) | go_simp)); have hk1_7 : w1.cell? ⟨wr.heap.size, 7, none⟩ = some (.string b1) := (by rw [hc1 _ _ (by first | (simp; done) | (simp; omega) | omega)]; (first | (simp; done) | (simp [*]; done) | go_simp)); have hk1_8 : w1.cell? ⟨wr.heap.size, 8, none⟩ = some (.int .i64 t2) := (by rw [hc1 _ _ (by first | (simp; done) | (simp; omega) | omega)]; (first | (simp; done) | (simp [*]; done) | go_simp)); have hk1_9 : w1.cell? ⟨wr.heap.size, 9, none⟩ = some (.int .u64 n2) := (by rw [hc1 _ _ (by first | (simp; done) | (simp; omega) | omega)]; (first | (simp; done) | (simp [*]; done) | go_simp)); have hk1_10 : w1.cell? ⟨wr.heap.size, 10, none⟩ = some (.string b2) := (by rw [hc1 _ _ (by first | (simp; done) | (simp; omega) | omega)]; (first | (simp; done) | (simp [*]; done) | go_simp)); have hk1_11 : w1.cell? ⟨wr.heap.size, 11, none⟩ = some (.int .i64 t3) := (by rw [hc1 _ _ (by first | (simp; done) | (simp; omega) | omega)]; (first | (simp; done) | (simp [*]; done) | go_simp)); have hk1_12 : w1.cell? ⟨wr.heap.size, 12, none⟩ = some (.int .u64 n3) := (by rw [hc1 _ _ (by first | (simp; done) | (simp; omega) | omega)]; (first | (simp; done) | (simp [*]; done) | go_simp)); have hk1_13 : w1.cell? ⟨wr.heap.size, 13, none⟩ = some (.string b3) := (by rw [hc1 _ _ (by first | (simp; done) | (simp; omega) | omega)]; (first | (simp; done) | (simp [*]; done) | go_simp))) | fail)
          refine (HA _).mono ?_
          rintro e w2 ⟨rfl, hF2⟩
          (have hz2 := hF2.size; (try simp at hz2); (try (have hz2_0 : wr.heap.size < w2.heap.size := (by omega))); have hc2 := hF2.cells; have hf2 := hF2.froz; have hg2_0 : ∀ o, w2.frozen? ⟨wr.heap.size, o, none⟩ = false := (by intro o; rw [hf2 _ _ (by first | (simp; done) | (simp; omega) | omega)]; (first | (simp; done) | (simp [*]; done) | go_simp)); have hk2_0 : w2.cell? ⟨wr.heap.size, 0, none⟩ = some (.int .u16 ix) := (by rw [hc2 _ _ (by first | (simp; done) | (simp; omega) | omega)]; (first | (simp; done) | (simp [*]; done) | go_simp)); have hk2_1 : w2.cell? ⟨wr.heap.size, 1, none⟩ = some (.int .u8 sub) := (by rw [hc2 _ _ (by first | (simp; done) | (simp; omega) | omega)]; (first | (simp; done) | (simp [*]; done) | go_simp)); have hk2_2 : w2.cell? ⟨wr.heap.size, 2, none⟩ = some (.int .i64 acc) := (by rw [hc2 _ _ (by first | (simp; done) | (simp; omega) | omega)]; (first | (simp; done) | (simp [*]; done) | go_simp)); have hk2_3 : w2.cell? ⟨wr.heap.size, 3, none⟩ = some (.bool mp) := (by rw [hc2 _ _ (by first | (simp; done) | (simp; omega) | omega)]; (first | (simp; done) | (simp [*]; done) | go_simp)); have hk2_4 : w2.cell? ⟨wr.heap.size, 4, none⟩ = some (.bool lim) := (by rw [hc2 _ _ (by first | (simp; done) | (simp; omega) | omega)]; (first | (simp; done) | (simp [*]; done) | go_simp)); have hk2_5 : w2.cell? ⟨wr.heap.size, 5, none⟩ = some (.int .i64 t1) := (by rw [hc2 _ _ (by first | (simp; done) | (simp; omega) | omega)]; (first | (simp; done) | (simp [*]; done) | go_simp)); have hk2_6 : w2.cell? ⟨wr.heap.size, 6, none⟩ = some (.int .u64 n1) := (by rw [hc2 _ _ (by first | (simp; done) | (simp; omega) | omega)]; (first | (simp; done) | (simp [*]; done) | go_simp)); have hk2_7 : w2.cell? ⟨wr.heap.size, 7, none⟩ = some (.string b1) := (by rw [hc2 _ _ (by first | (simp; done) | (simp; omega) | omega)]; (first | (simp; done) | (simp [*]; done) | go_simp)); have hk2_8 : w2.cell? ⟨wr.heap.size, 8, none⟩ = some (.int .i64 t2) := (by rw [hc2 _ _ (by first | (simp; done) | (simp; omega) | omega)]; (first | (simp; done) | (simp [*]; done) | go_simp)); have hk2_9 : w2.cell? ⟨wr.heap.size, 9, none⟩ = some (.int .u64 n2) := (by rw [hc2 _ _ (by first | (simp; done) | (simp; omega) | omega)]; (first | (simp; done) | (simp [*]; done) | go_simp)); have hk2_10 : w2.cell? ⟨wr.heap.size, 10, none⟩ = some (.string b2) := (by rw [hc2 _ _ (by first | (simp; done) | (simp; omega) | omega)]; (first | (simp; done) | (simp [*]; done) | go_simp)); have hk2_11 : w2.cell? ⟨wr.heap.size, 11, none⟩ = some (.int .i64 t3) := (by rw [hc2 _ _ (by first | (simp; done) | (simp; omega) | omega)]; (first | (simp; done) | (simp [*]; done) | go_simp)); have hk2_12 : w2.cell? ⟨wr.heap.size, 12, none⟩ = some (.int .u64 n3) := (by rw [hc2 _ _ (by first | (simp; done) | (simp; omega) | omega)]; (first | (simp; done) | (simp [*]; done) | go_simp)); have hk2_13 : w2.cell? ⟨wr.heap.size, 13, none⟩ = some (.string b3) := (by rw [hc2 _ _ (by first | (simp; done) | (simp; omega) | omega)]; (first | (simp; done) | (simp [*]; done) | go_simp)))
          have hM2 := hM.fr (Fr.trans (Fr.trans (Fr.alloc (Fr.refl wr) _) hF1) hF2)
          have hl := look_plO hM2 ix sub
          simp only [h1, decide_true, decide_false] at hl
          go_wp2_with fail
          go_ret
          exact ⟨ret_int (hR.out.trans hnx).symm, by (repeat (with_reducible first | exact Fr.refl _ | assumption | refine Fr.alloc ?_ _ | refine Fr.drew ?_ | refine Fr.drewN ?_ _ | refine Fr.set ?_ (by first | (simp; done) | (simp; omega)) _ | refine Fr.trans ?_ (by assumption)))⟩
        · rw [if_neg h1] at hnx
          go_wp2_with (first | (go_at_call 185; refine (HE _).mono ?_; rintro e w1 ⟨rfl, hF1⟩; have hz1 := hF1.size; (try simp at hz1); (try (have hz1_0 : wr.heap.size < w1.heap.size := (by omega))); have hc1 := hF1.cells; have hf1 := hF1.froz; have hg1_0 : ∀ o, w1.frozen? ⟨wr.heap.size, o, none⟩ = false := (by intro o; rw [hf1 _ _ (by first | (simp; done) | (simp; omega) | omega)]; (first | (simp; done) | (simp [*]; done) | go_simp)); have hk1_0 : w1.cell? ⟨wr.heap.size, 0, none⟩ = some (.int .u16 ix) := (by rw [hc1 _ _ (by first | (simp; done) | (simp; omega) | omega)]; (first | (simp; done) | (simp [*]; done) | go_simp)); have hk1_1 : w1.cell? ⟨wr.heap.size, 1, none⟩ = some (.int .u8 sub) := (by rw [hc1 _ _ (by first | (simp; done) | (simp; omega) | omega)]; (first | (simp; done) | (simp [*]; done) | go_simp)); have hk1_2 : w1.cell? ⟨wr.heap.size, 2, none⟩ = some (.int .i64 acc) := (by rw [hc1 _ _ (by first | (simp; done) | (simp; omega) | omega)]; (first | (simp; done) | (simp [*]; done) | go_simp)); have hk1_3 : w1.cell? ⟨wr.heap.size, 3, none⟩ = some (.bool mp) := (by rw [hc1 _ _ (by first | (simp; done) | (simp; omega) | omega)]; (first | (simp; done) | (simp [*]; done) | go_simp)); have hk1_4 : w1.cell? ⟨wr.heap.size, 4, none⟩ = some (.bool lim) := (by rw [hc1 _ _ (by first | (simp; done) | (simp; omega) | omega)]; (first | (simp; done) | (simp [*]; done) | go_simp)); have hk1_5 : w1.cell? ⟨wr.heap.size, 5, none⟩ = some (.int .i64 t1) := (by rw [hc1 _ _ (by first | (simp; done) | (simp; omega) | omega)]; (first | (simp; done) | (simp [*]; done) | go_simp)); have hk1_6 : w1.cell? ⟨wr.heap.size, 6, none⟩ = some (.int .u64 n1) := (by rw [hc1 _ _ (by first | (simp; done) | (simp; omega) | omega)]; (first | (simp; done) | (simp [*]; done) | go_simp)); have hk1_7 : w1.cell? ⟨wr.heap.size, 7, none⟩ = some (.string b1) := (by rw [hc1 _ _ (by first | (simp; done) | (simp; omega) | omega)]; (first | (simp; done) | (simp [*]; done) | go_simp)); have hk1_8 : w1.cell? ⟨wr.heap.size, 8, none⟩ = some (.int .i64 t2) := (by rw [hc1 _ _ (by first | (simp; done) | (simp; omega) | omega)]; (first | (simp; done) | (simp [*]; done) | go_simp)); have hk1_9 : w1.cell? ⟨wr.heap.size, 9, none⟩ = some (.int .u64 n2) := (by rw [hc1 _ _ (by first | (simp; done) | (simp; omega) | omega)]; (first | (simp; done) | (simp [*]; done) | go_simp)); have hk1_10 : w1.cell? ⟨wr.heap.size, 10, none⟩ = some (.string b2) := (by rw [hc1 _ _ (by first | (simp; done) | (simp; omega) | omega)]; (first | (simp; done) | (simp [*]; done) | go_simp)); have hk1_11 : w1.cell? ⟨wr.heap.size, 11, none⟩ = some (.int .i64 t3) := (by rw [hc1 _ _ (by first | (simp; done) | (simp; omega) | omega)]; (first | (simp; done) | (simp [*]; done) | go_simp)); have hk1_12 : w1.cell? ⟨wr.heap.size, 12, none⟩ = some (.int .u64 n3) := (by rw [hc1 _ _ (by first | (simp; done) | (simp; omega) | omega)]; (first | (simp; done) | (simp [*]; done) | go_simp)); have hk1_13 : w1.cell? ⟨wr.heap.size, 13, none⟩ = some (.string b3) := (by rw [hc1 _ _ (by first | (simp; done) | (simp; omega) | omega)]; (first | (simp; done) | (simp [*]; done) | go_simp))) | fail)
          refine (HA _).mono ?_
          rintro e w2 ⟨rfl, hF2⟩
          (have hz2 := hF2.size; (try simp at hz2); (try (have hz2_0 : wr.heap.size < w2.heap.size := (by omega))); have hc2 := hF2.cells; have hf2 := hF2.froz; have hg2_0 : ∀ o, w2.frozen? ⟨wr.heap.size, o, none⟩ = false := (by intro o; rw [hf2 _ _ (by first | (simp; done) | (simp; omega) | omega)]; (first | (simp; done) | (simp [*]; done) | go_simp)); have hk2_0 : w2.cell? ⟨wr.heap.size, 0, none⟩ = some (.int .u16 ix) := (by rw [hc2 _ _ (by first | (simp; done) | (simp; omega) | omega)]; (first | (simp; done) | (simp [*]; done) | go_simp)); have hk2_1 : w2.cell? ⟨wr.heap.size, 1, none⟩ = some (.int .u8 sub) := (by rw [hc2 _ _ (by first | (simp; done) | (simp; omega) | omega)]; (first | (simp; done) | (simp [*]; done) | go_simp)); have hk2_2 : w2.cell? ⟨wr.heap.size, 2, none⟩ = some (.int .i64 acc) := (by rw [hc2 _ _ (by first | (simp; done) | (simp; omega) | omega)]; (first | (simp; done) | (simp [*]; done) | go_simp)); have hk2_3 : w2.cell? ⟨wr.heap.size, 3, none⟩ = some (.bool mp) := (by rw [hc2 _ _ (by first | (simp; done) | (simp; omega) | omega)]; (first | (simp; done) | (simp [*]; done) | go_simp)); have hk2_4 : w2.cell? ⟨wr.heap.size, 4, none⟩ = some (.bool lim) := (by rw [hc2 _ _ (by first | (simp; done) | (simp; omega) | omega)]; (first | (simp; done) | (simp [*]; done) | go_simp)); have hk2_5 : w2.cell? ⟨wr.heap.size, 5, none⟩ = some (.int .i64 t1) := (by rw [hc2 _ _ (by first | (simp; done) | (simp; omega) | omega)]; (first | (simp; done) | (simp [*]; done) | go_simp)); have hk2_6 : w2.cell? ⟨wr.heap.size, 6, none⟩ = some (.int .u64 n1) := (by rw [hc2 _ _ (by first | (simp; done) | (simp; omega) | omega)]; (first | (simp; done) | (simp [*]; done) | go_simp)); have hk2_7 : w2.cell? ⟨wr.heap.size, 7, none⟩ = some (.string b1) := (by rw [hc2 _ _ (by first | (simp; done) | (simp; omega) | omega)]; (first | (simp; done) | (simp [*]; done) | go_simp)); have hk2_8 : w2.cell? ⟨wr.heap.size, 8, none⟩ = some (.int .i64 t2) := (by rw [hc2 _ _ (by first | (simp; done) | (simp; omega) | omega)]; (first | (simp; done) | (simp [*]; done) | go_simp)); have hk2_9 : w2.cell? ⟨wr.heap.size, 9, none⟩ = some (.int .u64 n2) := (by rw [hc2 _ _ (by first | (simp; done) | (simp; omega) | omega)]; (first | (simp; done) | (simp [*]; done) | go_simp)); have hk2_10 : w2.cell? ⟨wr.heap.size, 10, none⟩ = some (.string b2) := (by rw [hc2 _ _ (by first | (simp; done) | (simp; omega) | omega)]; (first | (simp; done) | (simp [*]; done) | go_simp)); have hk2_11 : w2.cell? ⟨wr.heap.size, 11, none⟩ = some (.int .i64 t3) := (by rw [hc2 _ _ (by first | (simp; done) | (simp; omega) | omega)]; (first | (simp; done) | (simp [*]; done) | go_simp)); have hk2_12 : w2.cell? ⟨wr.heap.size, 12, none⟩ = some (.int .u64 n3) := (by rw [hc2 _ _ (by first | (simp; done) | (simp; omega) | omega)]; (first | (simp; done) | (simp [*]; done) | go_simp)); have hk2_13 : w2.cell? ⟨wr.heap.size, 13, none⟩ = some (.string b3) := (by rw [hc2 _ _ (by first | (simp; done) | (simp; omega) | omega)]; (first | (simp; done) | (simp [*]; done) | go_simp)))
          have hM2 := hM.fr (Fr.trans (Fr.trans (Fr.alloc (Fr.refl wr) _) hF1) hF2)
          have hl := look_plO hM2 ix sub
          simp only [h1, decide_true, decide_false] at hl
          go_wp2_with fail
          refine (HA _).mono ?_
          rintro e w3 ⟨rfl, hF3⟩
          (have hz3 := hF3.size; (try simp at hz3); (try (have hz3_0 : wr.heap.size < w3.heap.size := (by omega))); have hc3 := hF3.cells; have hf3 := hF3.froz)
          have hM3 := hM2.fr hF3
          obtain ⟨es, cl, hu, hM4⟩ := upd_plO hM3 ix sub
          go_wp2_with fail
          go_roundw
          case rel =>
            rw [if_neg h1] at hM4
            refine ⟨k + 1, by omega, by simp, ?_, by rw [htk]; exact hM4, hid_trans hR hnx⟩
            exact fr_setB (by (repeat (with_reducible first | exact Fr.refl _ | assumption | refine Fr.alloc ?_ _ | refine Fr.drew ?_ | refine Fr.drewN ?_ _ | refine Fr.set ?_ (by first | (simp; done) | (simp; omega)) _ | refine Fr.trans ?_ (by assumption)))) _ (Nat.le_refl _)
          case measure =>
            show l.length - ((k : Int) + 1).toNat < l.length - ((k : Int)).toNat
            omega
      · have h0' := bne_true h0
        rw [if_pos h0] at hnx
        go_wp2_with (first | (go_at_call 185; refine (HE _).mono ?_; rintro e w1 ⟨rfl, hF1⟩; have hz1 := hF1.size; (try simp at hz1); (try (have hz1_0 : wr.heap.size < w1.heap.size := (by omega))); have hc1 := hF1.cells; have hf1 := hF1.froz; have hg1_0 : ∀ o, w1.frozen? ⟨wr.heap.size, o, none⟩ = false := (by intro o; rw [hf1 _ _ (by first | (simp; done) | (simp; omega) | omega)]; (first | (simp; done) | (simp [*]; done) | go_simp)); have hk1_0 : w1.cell? ⟨wr.heap.size, 0, none⟩ = some (.int .u16 ix) := (by rw [hc1 _ _ (by first | (simp; done) | (simp; omega) | omega)]; (first | (simp; done) | (simp [*]; done) | go_simp)); have hk1_1 : w1.cell? ⟨wr.heap.size, 1, none⟩ = some (.int .u8 sub) := (by rw [hc1 _ _ (by first | (simp; done) | (simp; omega) | omega)]; (first | (simp; done) | (simp [*]; done) | go_simp)); have hk1_2 : w1.cell? ⟨wr.heap.size, 2, none⟩ = some (.int .i64 acc) := (by rw [hc1 _ _ (by first | (simp; done) | (simp; omega) | omega)]; (first | (simp; done) | (simp [*]; done) | go_simp)); have hk1_3 : w1.cell? ⟨wr.heap.size, 3, none⟩ = some (.bool mp) := (by rw [hc1 _ _ (by first | (simp; done) | (simp; omega) | omega)]; (first | (simp; done) | (simp [*]; done) | go_simp)); have hk1_4 : w1.cell? ⟨wr.heap.size, 4, none⟩ = some (.bool lim) := (by rw [hc1 _ _ (by first | (simp; done) | (simp; omega) | omega)]; (first | (simp; done) | (simp [*]; done) | go_simp)); have hk1_5 : w1.cell? ⟨wr.heap.size, 5, none⟩ = some (.int .i64 t1) := (by rw [hc1 _ _ (by first | (simp; done) | (simp; omega) | omega)]; (first | (simp; done) | (simp [*]; done) | go_simp)); have hk1_6 : w1.cell? ⟨wr.heap.size, 6, none⟩ = some (.int .u64 n1) := (by rw [hc1 _ _ (by first | (simp; done) | (simp; omega) | omega)]; (first | (simp; done) | (simp [*]; done) | go_simp)); have hk1_7 : w1.cell? ⟨wr.heap.size, 7, none⟩ = some (.string b1) := (by rw [hc1 _ _ (by first | (simp; done) | (simp; omega) | omega)]; (first | (simp; done) | (simp [*]; done) | go_simp)); have hk1_8 : w1.cell? ⟨wr.heap.size, 8, none⟩ = some (.int .i64 t2) := (by rw [hc1 _ _ (by first | (simp; done) | (simp; omega) | omega)]; (first | (simp; done) | (simp [*]; done) | go_simp)); have hk1_9 : w1.cell? ⟨wr.heap.size, 9, none⟩ = some (.int .u64 n2) := (by rw [hc1 _ _ (by first | (simp; done) | (simp; omega) | omega)]; (first | (simp; done) | (simp [*]; done) | go_simp)); have hk1_10 : w1.cell? ⟨wr.heap.size, 10, none⟩ = some (.string b2) := (by rw [hc1 _ _ (by first | (simp; done) | (simp; omega) | omega)]; (first | (simp; done) | (simp [*]; done) | go_simp)); have hk1_11 : w1.cell? ⟨wr.heap.size, 11, none⟩ = some (.int .i64 t3) := (by rw [hc1 _ _ (by first | (simp; done) | (simp; omega) | omega)]; (first | (simp; done) | (simp [*]; done) | go_simp)); have hk1_12 : w1.cell? ⟨wr.heap.size, 12, none⟩ = some (.int .u64 n3) := (by rw [hc1 _ _ (by first | (simp; done) | (simp; omega) | omega)]; (first | (simp; done) | (simp [*]; done) | go_simp)); have hk1_13 : w1.cell? ⟨wr.heap.size, 13, none⟩ = some (.string b3) := (by rw [hc1 _ _ (by first | (simp; done) | (simp; omega) | omega)]; (first | (simp; done) | (simp [*]; done) | go_simp))) | fail)
        go_ret
        exact ⟨ret_int (hR.out.trans hnx).symm, by (repeat (with_reducible first | exact Fr.refl _ | assumption | refine Fr.alloc ?_ _ | refine Fr.drew ?_ | refine Fr.drewN ?_ _ | refine Fr.set ?_ (by first | (simp; done) | (simp; omega)) _ | refine Fr.trans ?_ (by assumption)))⟩
    · have hkl : k = l.length := by omega
      subst hkl
      have hnl : ¬ ((l.length : Nat) : Int) < (l.length : Nat) := by omega
      go_wp2_with fail
      go_ret
      exact ⟨ret_int (hR.out.trans (show restE l l.length = 0 by simp [restE, firstE])).symm, by (repeat (with_reducible first | exact Fr.refl _ | assumption | refine Fr.alloc ?_ _ | refine Fr.drew ?_ | refine Fr.drewN ?_ _ | refine Fr.set ?_ (by first | (simp; done) | (simp; omega)) _ | refine Fr.trans ?_ (by assumption)))⟩

set_option maxHeartbeats 1000000 in
theorem odc_nil (A : Option Addr) (c : Nat) (w : World) : Calls Tryz.prog 137 #[.slice A 0 c] w fun e w' => e = .returned (.int .i64 0) ∧ Fr w w' := by
  have hmm := @run_makeMap Tryz.prog
  go_enter Tryz.func137, Tryz.ntmps137
  go_wp2
  refine wp_loop_rounds 1 ?_
  rw [rounds_succ]
  go_wp2
  go_ret
  exact ⟨rfl, by (repeat (with_reducible first | exact Fr.refl _ | assumption | refine Fr.alloc ?_ _ | refine Fr.drew ?_ | refine Fr.drewN ?_ _ | refine Fr.set ?_ (by first | (simp; done) | (simp; omega)) _ | refine Fr.trans ?_ (by assumption)))⟩

theorem odc_any (l : List E) (hwf : ∀ e ∈ l, e.wf) (v : Value) (w : World) (h : RdE w v l) : Calls Tryz.prog 137 #[v] w fun e w' => e = .returned (.int .i64 (chkL l)) ∧ Fr w w' := by
  obtain ⟨hl, A, c, rfl, hn, hc, hx⟩ := h
  unfold chkL
  by_cases h1 : 1024 < l.length
  · rw [if_pos h1]
    exact odc_long A _ c (by omega) w
  · rw [if_neg h1]
    rcases hx with hx | ⟨b, o, rfl, hb, hx⟩
    · have : l = [] := List.eq_nil_of_length_eq_zero hx
      subst this
      exact odc_nil A c w
    · exact odc_walk l hwf b o c hn (by omega) w hb hx
theorem odCheck_any (l : List E) (hwf : ∀ e ∈ l, e.wf) (v : Value) (w : World) (h : RdE w v l) : Calls Tryz.prog 91 #[v] w fun e w' => e = .returned (.int .i64 (chkL l)) ∧ Fr w w' := by
  have HC := fun w' (hf : Fr w w') => odc_any l hwf v w' (h.fr hf)
  obtain ⟨hl, A, c, rfl, hn, hc, hx⟩ := h
  go_enter Tryz.func91, Tryz.ntmps91
  go_wp2_with (first | (go_at_call 137; refine (HC _ (by (repeat (with_reducible first | exact Fr.refl _ | assumption | refine Fr.alloc ?_ _ | refine Fr.drew ?_ | refine Fr.drewN ?_ _ | refine Fr.set ?_ (by first | (simp; done) | (simp; omega)) _ | refine Fr.trans ?_ (by assumption))))).mono ?_; rintro e w1 ⟨rfl, hF1⟩; have hz1 := hF1.size; (try simp at hz1); have hc1 := hF1.cells; have hf1 := hF1.froz))
  go_ret
  exact ⟨rfl, by (repeat (with_reducible first | exact Fr.refl _ | assumption | refine Fr.alloc ?_ _ | refine Fr.drew ?_ | refine Fr.drewN ?_ _ | refine Fr.set ?_ (by first | (simp; done) | (simp; omega)) _ | refine Fr.trans ?_ (by assumption)))⟩

end Go.Proofs.YtmllpkpdfhniaaaGreat
