/- The program's od.New. -/
import Derived.Test.YtmllpkpdfhniaaaGreatJAOdD
import Derived.Test.YtmllpkpdfhniaaaGreatJABy
set_option linter.unusedVariables false
set_option linter.unusedSimpArgs false
namespace Go.Proofs.YtmllpkpdfhniaaaGreat
open Go.RowKit Go.Sort

theorem odnew_bad (l : List E) (hwf : ∀ e ∈ l, e.wf) (v : Value) (w : World) (h : RdE w v l) (hc : chkL l ≠ 0) : Calls Tryz.prog 89 #[v] w fun e w' => e = .returned (.tuple #[.pointer none, .int .i64 (chkL l)]) ∧ Fr w w' := by
  have HC := fun w' (hf : Fr w w') => odc_any l hwf v w' (h.fr hf)
  have hc' := bne_true hc
  obtain ⟨hl, A, c, rfl, hn, hcap, hx⟩ := h
  clear hx hc
  generalize chkL l = r at *
  go_enter Tryz.func89, Tryz.ntmps89
  go_wp2_with (first | (go_at_call 137; refine (HC _ (by (repeat (with_reducible first | exact Fr.refl _ | assumption | refine Fr.alloc ?_ _ | refine Fr.drew ?_ | refine Fr.drewN ?_ _ | refine Fr.set ?_ (by first | (simp; done) | (simp; omega)) _ | refine Fr.trans ?_ (by assumption))))).mono ?_; rintro e w1 ⟨rfl, hF1⟩; have hz1 := hF1.size; (try simp at hz1); have hc1 := hF1.cells; have hf1 := hF1.froz))
  go_ret2
  exact ⟨rfl, by (repeat (with_reducible first | exact Fr.refl _ | assumption | refine Fr.alloc ?_ _ | refine Fr.drew ?_ | refine Fr.drewN ?_ _ | refine Fr.set ?_ (by first | (simp; done) | (simp; omega)) _ | refine Fr.trans ?_ (by assumption)))⟩

/-- The items as New lays them. -/
def E.pln (e : E) : E := { e with df := plainV e.df }

/-- A dictionary of the program's at block bd, its blocks from 'base' to 'top'. -/
def ptrs (its : List (Nat × E × V)) : List Value := its.map fun x => .pointer (some ⟨x.1, 0, none⟩)
structure PD (w : World) (db lo hi : Nat) (vl : Value) (its : List (Nat × E × V)) : Prop where
  d : w.heap[db]? = some (.cells #[vl] 162 (0, 0))
  row : w.ownsRow lo 163 1 vl its.length (ptrs its)
  items : ∀ x ∈ its, ItemAt w x.1 x.2.1 x.2.2
  nodup : (its.map (·.1)).Nodup
  top : hi ≤ w.heap.size
  bd : lo ≤ db ∧ db < hi
  bl : ∀ g, vl.ownBlock = some g → g < hi ∧ g ≠ db
  bs : ∀ x ∈ its, lo ≤ x.1 ∧ x.1 < hi ∧ x.1 ≠ db ∧ vl.ownBlock ≠ some x.1
theorem PD.kept {w w' : World} {bd base top : Nat} {vl : Value} {its : List (Nat × E × V)} (h : PD w bd base top vl its) (hk : ∀ k, base ≤ k → k < top → w'.heap[k]? = w.heap[k]?) (hs : w.heap.size ≤ w'.heap.size) : PD w' bd base top vl its := by
  refine ⟨(hk _ h.bd.1 h.bd.2).trans h.d, ?_, fun x hx => (hk _ (h.bs x hx).1 (h.bs x hx).2.1).trans (h.items x hx), h.nodup, Nat.le_trans h.top hs, h.bd, h.bl, h.bs⟩
  refine ⟨h.row.1, h.row.2.imp id ?_⟩
  rintro ⟨g, cap, cur, hv, hb, hg, r⟩
  exact ⟨g, cap, cur, hv, hb, (hk g hb (h.bl g (by rw [hv]; rfl)).1).trans hg, r⟩
theorem PD.fr {w w' : World} {bd base top : Nat} {vl : Value} {its : List (Nat × E × V)} (h : PD w bd base top vl its) (hf : Fr w w') : PD w' bd base top vl its :=
  h.kept (fun k _ hk => hf.block k (Nat.lt_of_lt_of_le hk h.top)) hf.size
theorem PD.cell {w : World} {bd base top : Nat} {vl : Value} {its : List (Nat × E × V)} (h : PD w bd base top vl its) : w.cell? ⟨bd, 0, none⟩ = some vl := by simp [World.cell?, h.d]
theorem PD.froz {w : World} {bd base top : Nat} {vl : Value} {its : List (Nat × E × V)} (h : PD w bd base top vl its) (j : Nat) : w.frozen? ⟨bd, j, none⟩ = false := by simp [World.frozen?, h.d]
theorem PD.made (w : World) : PD (w.alloc (.cells #[.slice none 0 0] 162)) w.heap.size w.heap.size (w.heap.size + 1) (.slice none 0 0) [] := by
  exact ⟨heap_alloc_new w _, World.ownsRow_nil _ _ _ _, by simp, by simp, by simp, ⟨Nat.le_refl _, Nat.lt_succ_self _⟩, by simp [Value.ownBlock], by simp⟩

theorem PD.push {W W' w4 : World} {db lo hi : Nat} {vl : Value} {its : List (Nat × E × V)} (h : PD W db lo hi vl its) (e : E) (v : V) (o2 : Obj)
    (hW' : W'.heap = ((W.alloc (.cells (itemCells e v).toArray 165)).alloc o2).heap) (hgrow : W'.grownBy w4 vl.ownBlock) {g cap : Nat}
    (hown4 : w4.ownsRow lo 163 1 (.slice (some ⟨g, 0, none⟩) (its.length + 1) cap) (its.length + 1) (ptrs its ++ [.pointer (some ⟨W.heap.size, 0, none⟩)]))
    (hat : vl.ownBlock = some g ∨ g = W.heap.size + 2) (hlt4 : g < w4.heap.size) :
    PD (w4.setCell ⟨db, 0, none⟩ (.slice (some ⟨g, 0, none⟩) (its.length + 1) cap)) db lo (w4.setCell ⟨db, 0, none⟩ (.slice (some ⟨g, 0, none⟩) (its.length + 1) cap)).heap.size (.slice (some ⟨g, 0, none⟩) (its.length + 1) cap) (its ++ [(W.heap.size, e, v)]) := by
  have hsz : (w4.setCell ⟨db, 0, none⟩ (.slice (some ⟨g, 0, none⟩) (its.length + 1) cap)).heap.size = w4.heap.size := by simp
  have hs4 : W.heap.size + 2 ≤ w4.heap.size := by
    have := hgrow.size
    rw [hW'] at this
    simpa using this
  have hold : ∀ k, k < W.heap.size → some k ≠ vl.ownBlock → w4.heap[k]? = W.heap[k]? := fun k hk hn => by
    rw [hgrow.block k (by rw [hW']; simp; omega) hn, hW', heapOld _ _ _ (by simp; omega), heapOld _ _ _ hk]
  have hbd := h.bd
  have htop := h.top
  have hbl := h.bl
  have hgdb : g ≠ db := by
    rcases hat with hat | hat
    · exact (hbl g hat).2
    · omega
  have hdbl : some db ≠ vl.ownBlock := fun hh => (hbl _ hh.symm).2 rfl
  have hd4 : w4.heap[db]? = some (.cells #[vl] 162 (0, 0)) := (hold db (by omega) hdbl).trans h.d
  have hgl : ∀ x ∈ its, g ≠ x.1 := fun x hx hh => by
    rcases hat with hat | hat
    · exact (h.bs x hx).2.2.2 (by rw [hat, hh])
    · have := (h.bs x hx).2.1; omega
  have hnew : w4.heap[W.heap.size]? = some (.cells (itemCells e v).toArray 165 (0, 0)) := by
    rw [hgrow.block W.heap.size (by rw [hW']; simp; omega) (fun hh => by have := (hbl _ hh.symm).1; omega), hW', heapOld _ _ _ (by simp)]
    exact heap_alloc_new W _
  have hptr : ptrs (its ++ [(W.heap.size, e, v)]) = ptrs its ++ [.pointer (some ⟨W.heap.size, 0, none⟩)] := by simp [ptrs]
  refine ⟨heap_setCell_same _ _ _ _ _ _ hd4, ?_, ?_, ?_, Nat.le_refl _, ⟨hbd.1, by rw [hsz]; omega⟩, ?_, ?_⟩
  · rw [hptr, List.length_append, List.length_singleton]
    refine ⟨hown4.1, hown4.2.imp id ?_⟩
    rintro ⟨g', cap', cur, hv, hb, hg, r⟩
    refine ⟨g', cap', cur, hv, hb, ?_, r⟩
    have : g = g' := by simpa [Value.ownBlock] using congrArg Value.ownBlock hv
    subst this
    rw [heap_setCell_other _ _ _ _ hgdb]
    exact hg
  · intro x hx
    rcases List.mem_append.1 hx with hx | hx
    · have hb := h.bs x hx
      unfold ItemAt
      rw [heap_setCell_other _ _ _ _ hb.2.2.1, hold x.1 (by omega) (Ne.symm hb.2.2.2)]
      exact h.items x hx
    · have : x = (W.heap.size, e, v) := by simpa using hx
      subst this
      unfold ItemAt
      rw [heap_setCell_other _ _ _ _ (by show W.heap.size ≠ db; omega)]
      exact hnew
  · rw [List.map_append, List.nodup_append]
    refine ⟨h.nodup, by simp, ?_⟩
    intro a ha c hc
    have : c = W.heap.size := by simpa using hc
    subst this
    obtain ⟨x, hx, rfl⟩ := List.mem_map.1 ha
    have := (h.bs x hx).2.1
    omega
  · intro g' hg'
    have : g = g' := by simpa [Value.ownBlock] using hg'
    subst this
    exact ⟨by rw [hsz]; exact hlt4, hgdb⟩
  · intro x hx
    rw [hsz]
    rcases List.mem_append.1 hx with hx | hx
    · have hb := h.bs x hx
      exact ⟨hb.1, by omega, hb.2.2.1, fun hh => hgl x hx (by simpa [Value.ownBlock] using hh)⟩
    · have : x = (W.heap.size, e, v) := by simpa using hx
      subst this
      refine ⟨by show lo ≤ W.heap.size; omega, by show W.heap.size < _; omega, by show W.heap.size ≠ db; omega, fun hh => ?_⟩
      have hh : g = W.heap.size := by simpa [Value.ownBlock] using hh
      rcases hat with hat | hat
      · have := (hbl g hat).1; omega
      · omega

theorem infoPtr : (Tryz.prog.info? 163).map (fun i => (i.zero, i.size, i.bytes)) = some (some (.pointer none), 1, 8) := by kernel_rfl
end Go.Proofs.YtmllpkpdfhniaaaGreat
