/- The program's dictionary: its items sorted. -/
import Derived.Test.YtmllpkpdfhniaaaGreatJAOdE
import Derived.Test.YtmllpkpdfhniaaaGreatJAShelfS
set_option linter.unusedVariables false
set_option linter.unusedSimpArgs false
namespace Go.Proofs.YtmllpkpdfhniaaaGreat
open Go.RowKit Go.Sort Go.Shelf

theorem ordP_lt (x1 y1 x2 y2 : Int) (h1 : 0 ≤ y1 ∧ y1 ≤ 255) (h2 : 0 ≤ y2 ∧ y2 ≤ 255) : ordP x1 y1 x2 y2 < 0 ↔ x1 * 256 + y1 < x2 * 256 + y2 := by
  unfold ordP orI cmpI
  split <;> split <;> (try split) <;> omega
theorem ordP_eq (x1 y1 x2 y2 : Int) (h1 : 0 ≤ y1 ∧ y1 ≤ 255) (h2 : 0 ≤ y2 ∧ y2 ≤ 255) : ordP x1 y1 x2 y2 = 0 ↔ x1 * 256 + y1 = x2 * 256 + y2 := by
  unfold ordP orI cmpI
  split <;> split <;> (try split) <;> omega
theorem ordP_mono (x1 y1 x2 y2 : Int) : ordP x1 y1 x2 y2 = orI (cmpI x1 x2) (cmpI y1 y2) := rfl

/-- An item among these. -/
abbrev Sub (its : List (Nat × E × V)) := {x : Nat × E × V // x ∈ its}
def encS {its : List (Nat × E × V)} (x : Sub its) : Value := .pointer (some ⟨x.1.1, 0, none⟩)
def cfS {its : List (Nat × E × V)} (x y : Sub its) : Int := ordP x.1.2.1.ix x.1.2.1.sub y.1.2.1.ix y.1.2.1.sub
def plS (x : Nat × E × V) : Int := x.2.1.pl

theorem ltS {its : List (Nat × E × V)} (hw : ∀ x ∈ its, x.2.1.wf) (x y : Sub its) : ltOf cfS x y = decide (plS x.1 < plS y.1) := by
  unfold ltOf cfS plS E.pl
  have h := ordP_lt x.1.2.1.ix x.1.2.1.sub y.1.2.1.ix y.1.2.1.sub (hw _ x.2).2.1 (hw _ y.2).2.1
  by_cases c : ordP x.1.2.1.ix x.1.2.1.sub y.1.2.1.ix y.1.2.1.sub < 0
  · simp [c, h.1 c]
  · have := fun hh => c (h.2 hh)
    simp [c]
    omega

theorem swoS {its : List (Nat × E × V)} (hw : ∀ x ∈ its, x.2.1.wf) : SWO (ltOf (cfS (its := its))) := by
  refine ⟨fun x => ?_, fun x y z => ?_, fun x y z => ?_⟩
  · rw [ltS hw]; simp
  · rw [ltS hw, ltS hw, ltS hw]; simp only [decide_eq_true_eq]; omega
  · rw [ltS hw, ltS hw, ltS hw]; simp only [decide_eq_false_iff_not]; omega

theorem eq_of_pl {its : List (Nat × E × V)} (hd : (its.map plS).Nodup) {x y : Nat × E × V} (hx : x ∈ its) (hy : y ∈ its) (h : plS x = plS y) : x = y := by
  induction its with
  | nil => cases hx
  | cons z its ih =>
    rw [List.map_cons, List.nodup_cons] at hd
    rcases List.mem_cons.1 hx with h1 | h1
    · rcases List.mem_cons.1 hy with h2 | h2
      · rw [h1, h2]
      · exact absurd (by rw [← h1, h]; exact List.mem_map_of_mem h2) hd.1
    · rcases List.mem_cons.1 hy with h2 | h2
      · exact absurd (by rw [← h2, ← h]; exact List.mem_map_of_mem h1) hd.1
      · exact ih hd.2 h1 h2

theorem totS {its : List (Nat × E × V)} (hw : ∀ x ∈ its, x.2.1.wf) (hd : (its.map plS).Nodup) (x y : Sub its) (h1 : ltOf cfS x y = false) (h2 : ltOf cfS y x = false) : x = y := by
  rw [ltS hw] at h1 h2
  simp only [decide_eq_false_iff_not] at h1 h2
  exact Subtype.ext (eq_of_pl hd x.2 y.2 (by omega))

theorem sortWorld_at {α : Type} [Inhabited α] (enc : α → Value) (w : World) (g off m : Nat) (dk : Array α) (os : Array Obj) (k : Nat) (hk : k ≠ g) (hk2 : k < w.heap.size) : (sortWorld enc w g off m dk os).heap[k]? = w.heap[k]? := by
  unfold sortWorld
  rw [heap_grow_old _ _ (by simpa [putRow, mapBlock] using hk2)]
  simp only [putRow, mapBlock, Array.getElem?_modify]
  rw [if_neg (fun e => hk e.symm)]
  rfl
theorem sortWorld_row {α : Type} [Inhabited α] (enc : α → Value) (w : World) (g off m : Nat) (dk : Array α) (os : Array Obj) {cur : Array Value} {e : TypeId} {fr : Nat × Nat} (hg : w.heap[g]? = some (.cells cur e fr)) : (sortWorld enc w g off m dk os).heap[g]? = some (.cells (putCells enc off dk cur) e fr) := by
  have hlt := (Array.getElem?_eq_some_iff.1 hg).1
  unfold sortWorld
  rw [heap_grow_old _ _ (by simpa [putRow, mapBlock] using hlt)]
  simp only [putRow, mapBlock, Array.getElem?_modify, if_pos]
  rw [show (Sort.ahead w m).heap[g]? = _ from hg]
  rfl
theorem sortWorld_below {α : Type} [Inhabited α] (enc : α → Value) (w : World) (g off m : Nat) (dk : Array α) (os : Array Obj) (B : Nat) (hB : B ≤ g) (hBs : B ≤ w.heap.size) : RowKit.Below B w (sortWorld enc w g off m dk os) := by
  refine ⟨rfl, rfl, rfl, ?_, fun k hk => sortWorld_at enc w g off m dk os k (by omega) (by omega)⟩
  unfold sortWorld
  rw [size_grow]
  simp [putRow, mapBlock, Sort.ahead]

/-- slices.SortFunc at a dictionary's items: they lie sorted. -/
theorem sort_PD {w : World} {db lo hi : Nat} {vl : Value} {its : List (Nat × E × V)} (h : PD w db lo hi vl its) (hne : its ≠ []) (hlen : its.length ≤ 1024) (hw : ∀ x ∈ its, x.2.1.wf) (hd : (its.map plS).Nodup) (hlo : lo ≤ w.heap.size) :
    Calls Tryz.prog 138 #[vl, .func (.func 139) #[] #[]] w fun e w' => e = .returned (.tuple #[]) ∧ ∃ its', its'.Perm its ∧ (its'.map plS).Pairwise (· < ·) ∧ PD w' db lo hi vl its' ∧ RowKit.Below lo w w' := by
  obtain ⟨g, cap, cur, hv, hlg, hg, hcap, hmax, hcs, htake⟩ : ∃ g cap cur, vl = .slice (some ⟨g, 0, none⟩) its.length cap ∧ lo ≤ g ∧ w.heap[g]? = some (.cells cur 163 (0, 0)) ∧ its.length ≤ cap ∧ cap ≤ maxLen ∧ cur.size = cap * 1 ∧ cur.toList.take (its.length * 1) = ptrs its := by
    rcases h.row.2 with ⟨_, h0⟩ | h1
    · exact absurd (List.length_eq_zero_iff.1 h0) hne
    · exact h1
  have hgdb : g ≠ db := (h.bl g (by rw [hv]; rfl)).2
  have hgx : ∀ x ∈ its, x.1 ≠ g := fun x hx hh => (h.bs x hx).2.2.2 (by rw [hv, hh]; rfl)
  have hglt : g < w.heap.size := (Array.getElem?_eq_some_iff.1 hg).1
  obtain ⟨y0, hy0⟩ : ∃ y, y ∈ its := List.exists_mem_of_ne_nil its hne
  let inh : Inhabited (Sub its) := ⟨⟨y0, hy0⟩⟩
  let d : Array (Sub its) := its.attach.toArray
  have hds : d.size = its.length := by simp [d]
  have hdj : ∀ j (hj : j < its.length), d[j]! = ⟨its[j], List.getElem_mem hj⟩ := fun j hj => by
    rw [getElem!_pos d j (by omega)]
    simp [d]
  have hH : Holds encS w g 0 d := fun j hj => by
    have hj' : j < its.length := by omega
    refine ⟨?_, by simp [World.frozen?, hg]⟩
    rw [hdj j hj']
    have h1 : (cur.toList.take (its.length * 1))[j]? = some (.pointer (some ⟨its[j].1, 0, none⟩)) := by rw [htake]; simp [ptrs, List.getElem?_eq_getElem hj']
    rw [List.getElem?_take_of_lt (by omega)] at h1
    simp only [World.cell?, hg, Nat.zero_add]
    simpa [encS] using h1
  have hcmp : CmpLays1 Tryz.prog 139 #[] encS cfS g 0 d.size w := fun m os dk hk x y => by
    have hx := (h.items _ x.2)
    have hy := (h.items _ y.2)
    exact newcmp_any x.1.1 y.1.1 x.1.2.1 y.1.2.1 x.1.2.2 y.1.2.2 _ ((sortWorld_at encS w g 0 m dk os _ (hgx _ x.2) hx.lt).trans hx) ((sortWorld_at encS w g 0 m dk os _ (hgx _ y.2) hy.lt).trans hy)
  have hS := Any.slices_SortFunc_total Tryz.sortL encS (fun x => rfl) cfS (swoS hw) 139 #[] g 0 cap d w (fun args w => by kernel_rfl) hcmp hH hglt (by omega) (totS hw hd)
  rw [hv]
  rw [hds] at hS
  refine Calls.mono hS ?_
  rintro e w' ⟨rfl, n, os, rfl⟩
  refine ⟨rfl, ?_⟩
  have hp := List.mergeSort_perm d.toList fun x y => !(ltOf cfS) y x
  have hps := List.pairwise_mergeSort (le := fun x y => !(ltOf (cfS (its := its))) y x) (by
    intro a b c
    simp only [ltS hw, Bool.not_eq_true', decide_eq_false_iff_not]
    omega) (by
    intro a b
    simp only [ltS hw]
    by_cases c : plS a.1 < plS b.1
    · have : ¬ plS b.1 < plS a.1 := by omega
      simp [this]
    · simp [c]) d.toList
  generalize d.toList.mergeSort (fun x y => !(ltOf cfS) y x) = srt at hp hps
  have hperm : (srt.map (·.1)).Perm its := by
    have := hp.map (fun x : Sub its => x.1)
    have e : d.toList.map (fun x : Sub its => x.1) = its := List.attach_map_subtype_val its
    rwa [e] at this
  have hsl : srt.length = its.length := by have := hperm.length_eq; simpa using this
  have hpl : ((srt.map (·.1)).map plS).Pairwise (· < ·) := by
    have h1 : ((srt.map (·.1)).map plS).Pairwise (· ≤ ·) := by
      rw [List.map_map, List.pairwise_map]
      refine hps.imp ?_
      intro a b hab
      rw [ltS hw] at hab
      simp only [Bool.not_eq_true', decide_eq_false_iff_not] at hab
      show plS a.1 ≤ plS b.1
      omega
    have h2 : ((srt.map (·.1)).map plS).Nodup := ((hperm.map plS).nodup_iff).2 hd
    have := h1.and h2
    exact this.imp fun h => by omega
  refine ⟨srt.map (·.1), hperm, hpl, ?_, sortWorld_below _ _ _ _ _ _ _ _ hlg hlo⟩
  have hat : ∀ k, k ≠ g → k < w.heap.size → (sortWorld encS w g 0 n srt.toArray os).heap[k]? = w.heap[k]? := fun k hk hk2 => sortWorld_at encS w g 0 n srt.toArray os k hk hk2
  have hbd := h.bd
  have htop := h.top
  have hsz : w.heap.size ≤ (sortWorld encS w g 0 n srt.toArray os).heap.size := (sortWorld_below encS w g 0 n srt.toArray os lo hlg hlo).size
  rw [← hv]
  refine ⟨(hat db (Ne.symm hgdb) (by omega)).trans h.d, ?_, ?_, ?_, by omega, hbd, h.bl, fun x hx => h.bs x (hperm.mem_iff.1 hx)⟩
  · refine ⟨by simp [ptrs], .inr ⟨g, cap, putCells encS 0 srt.toArray cur, by rw [hv, hperm.length_eq], hlg, sortWorld_row encS w g 0 n srt.toArray os hg, by rw [hperm.length_eq]; exact hcap, hmax, by simpa [putCells] using hcs, ?_⟩⟩
    apply List.ext_getElem?
    intro j
    rw [hperm.length_eq]
    by_cases hj : j < its.length
    · rw [List.getElem?_take_of_lt (by omega)]
      have hjc : j < cur.size := by omega
      have hjs : j < srt.length := by omega
      simp only [putCells, Array.getElem?_toList, Array.getElem?_mapIdx, Array.getElem?_eq_getElem hjc, Option.map_some, ptrs, List.getElem?_map, List.getElem?_eq_getElem hjs]
      rw [if_pos ⟨Nat.zero_le _, by simpa using hjs⟩]
      simp [encS, hjs]
    · rw [List.getElem?_eq_none (by simp; omega), List.getElem?_eq_none (by simp [ptrs]; omega)]
  · intro x hx
    have hx' := hperm.mem_iff.1 hx
    exact (hat x.1 (hgx x hx') (h.items x hx').lt).trans (h.items x hx')
  · exact ((hperm.map (·.1)).nodup_iff).2 h.nodup

end Go.Proofs.YtmllpkpdfhniaaaGreat
