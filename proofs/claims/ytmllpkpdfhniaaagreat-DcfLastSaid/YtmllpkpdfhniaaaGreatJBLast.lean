/- Writing items, and writing only those that are not written again, come to the same. No program in sight. -/
import Derived.Test.YtmllpkpdfhniaaaGreatJAOdP
set_option linter.unusedVariables false
set_option linter.unusedSimpArgs false
namespace Go.Proofs.YtmllpkpdfhniaaaGreat
open Go.RowKit Go.Sort

/-! ### What is refused hangs on the entries alone -/
def mayE (es : List E) (px py : Int) (l : List UInt8) : Int := match es.find? fun e => e.pl == px * 256 + py with | none => (if (es.any fun e => e.ix == px) = true then cNoSub else cNoObject) | some e => mayX e l
theorem mayC_eq (its : List (Nat × E × V)) (px py : Int) (l : List UInt8) : mayC its px py l = mayE (its.map (·.2.1)) px py l := by
  unfold mayC mayE getI fcode hasIx
  rw [List.find?_map, List.any_map]
  have e1 : ((fun e : E => e.pl == px * 256 + py) ∘ fun x : Nat × E × V => x.2.1) = fun x => plS x == px * 256 + py := rfl
  have e2 : ((fun e : E => e.ix == px) ∘ fun x : Nat × E × V => x.2.1) = fun x => x.2.1.ix == px := rfl
  rw [e1, e2]
  cases its.find? (fun x => plS x == px * 256 + py) <;> rfl
theorem mayC_congr {its its' : List (Nat × E × V)} (h : its.map (·.2.1) = its'.map (·.2.1)) (px py : Int) (l : List UInt8) : mayC its px py l = mayC its' px py l := by rw [mayC_eq, mayC_eq, h]
theorem wrI_e (its : List (Nat × E × V)) (px py : Int) (l : List UInt8) : (wrI its px py l).map (·.2.1) = its.map (·.2.1) := by
  unfold wrI
  split
  · split
    · rfl
    · exact updI_e _ _ _
  · rfl
theorem stK_e (its : List (Nat × E × V)) (l : List It) : ∀ k, (stK its l k).map (·.2.1) = its.map (·.2.1)
  | 0 => rfl
  | k + 1 => by
    unfold stK
    split
    · exact stK_e its l k
    · rw [wrI_e]; exact stK_e its l k
theorem cA_eq (its : List (Nat × E × V)) (l : List It) (k : Nat) : cA its l k = cC its l k := by
  unfold cA cC
  split
  · rfl
  · exact mayC_congr (stK_e its l k) _ _ _

/-! ### What was written last -/
def lastW (e : E) (v : V) (l : List It) : V := l.foldl (fun v y => if y.pl = e.pl then decV e.df.t y.b else v) v
def finI (its : List (Nat × E × V)) (l : List It) : List (Nat × E × V) := its.map fun x => (x.1, x.2.1, lastW x.2.1 x.2.2 l)
theorem finI_nil (its : List (Nat × E × V)) : finI its [] = its := by
  unfold finI lastW
  simp
theorem finI_snoc {its : List (Nat × E × V)} (hS : PS its) (l : List It) (y : It) (hok : mayC its y.ix y.sub y.b = 0) : finI its (l ++ [y]) = wrI (finI its l) y.ix y.sub y.b := by
  have he : (finI its l).map (·.2.1) = its.map (·.2.1) := by simp [finI]
  have hok' : mayC (finI its l) y.ix y.sub y.b = 0 := (mayC_congr he _ _ _).trans hok
  have hpl : (finI its l).map plS = its.map plS := by simp [finI]; intro a b c d; rfl
  unfold wrI
  rw [if_pos hok']
  cases hg : getI (finI its l) (y.ix * 256 + y.sub) with
  | none =>
    unfold mayC at hok'
    rw [hg] at hok'
    have : fcode (finI its l) y.ix = 0 := hok'
    have h2 := fcode_ne (finI its l) y.ix
    rw [this] at h2
    exact absurd h2 (by decide)
  | some x =>
    obtain ⟨hm, hp⟩ := getI_some hg
    have hnd : ((finI its l).map plS).Nodup := by rw [hpl]; exact hS.nodup
    dsimp only
    unfold updI
    have e1 : finI its (l ++ [y]) = (finI its l).map fun z => if plS z = y.ix * 256 + y.sub then (z.1, z.2.1, decV z.2.1.df.t y.b) else z := by
      unfold finI
      rw [List.map_map]
      apply List.map_congr_left
      intro z hz
      have : plS (z.1, z.2.1, lastW z.2.1 z.2.2 l) = z.2.1.pl := rfl
      simp only [Function.comp_apply, this]
      unfold lastW
      rw [List.foldl_append, List.foldl_cons, List.foldl_nil]
      have e2 : y.pl = y.ix * 256 + y.sub := rfl
      rw [e2]
      by_cases h : z.2.1.pl = y.ix * 256 + y.sub
      · rw [if_pos h, if_pos h.symm]
      · rw [if_neg h, if_neg (fun hh => h hh.symm)]
    rw [e1]
    apply List.map_congr_left
    intro z hz
    by_cases h : plS z = y.ix * 256 + y.sub
    · rw [if_pos h, if_pos h]
      have : z = x := eq_of_pl hnd hz hm (by rw [h, hp])
      rw [this]
    · rw [if_neg h, if_neg h]
theorem stK_fin {its : List (Nat × E × V)} (hS : PS its) (l : List It) (hok : ∀ y ∈ l, mayC its y.ix y.sub y.b = 0) : ∀ k, stK its l k = finI its (l.take k)
  | 0 => by simp [stK, finI_nil]
  | k + 1 => by
    have ih := stK_fin hS l hok k
    unfold stK
    rw [ih]
    cases hx : l[k]? with
    | none =>
      have : l.take (k + 1) = l.take k := by rw [List.take_add_one, hx]; simp
      rw [this]
    | some y =>
      have : l.take (k + 1) = l.take k ++ [y] := by rw [List.take_add_one, hx]; simp
      rw [this, finI_snoc hS _ _ (hok y (List.mem_of_getElem? hx))]

def It.pr (x : It) : Int × Int := (x.ix, x.sub)
/-- The items that are not written again. -/
def lastL : List It → List It
  | [] => []
  | x :: l => if x.pr ∈ l.map It.pr then lastL l else x :: lastL l
theorem lastL_sub : ∀ l : List It, ∀ x ∈ lastL l, x ∈ l
  | [], x, h => by simp [lastL] at h
  | y :: l, x, h => by
    unfold lastL at h
    split at h
    · exact List.mem_cons_of_mem _ (lastL_sub l x h)
    · rcases List.mem_cons.1 h with rfl | h
      · exact List.mem_cons_self
      · exact List.mem_cons_of_mem _ (lastL_sub l x h)
theorem lastL_len : ∀ l : List It, (lastL l).length ≤ l.length
  | [] => Nat.le_refl _
  | y :: l => by
    unfold lastL
    have := lastL_len l
    split
    · simp; omega
    · simp; exact this
theorem lastW_any (e : E) : ∀ (l : List It) (v v' : V), (∃ z ∈ l, z.pl = e.pl) → lastW e v l = lastW e v' l
  | [], v, v', h => by obtain ⟨z, hz, _⟩ := h; cases hz
  | y :: l, v, v', h => by
    unfold lastW
    rw [List.foldl_cons, List.foldl_cons]
    by_cases hy : y.pl = e.pl
    · rw [if_pos hy, if_pos hy]
    · rw [if_neg hy, if_neg hy]
      obtain ⟨z, hz, hp⟩ := h
      rcases List.mem_cons.1 hz with rfl | hz
      · exact absurd hp hy
      · exact lastW_any e l v v' ⟨z, hz, hp⟩
theorem lastW_last (e : E) : ∀ (l : List It) (v : V), lastW e v (lastL l) = lastW e v l
  | [], v => rfl
  | y :: l, v => by
    unfold lastL
    have ih := lastW_last e l
    split
    · rename_i h
      rw [ih]
      show _ = lastW e (if y.pl = e.pl then decV e.df.t y.b else v) l
      by_cases hy : y.pl = e.pl
      · rw [if_pos hy]
        obtain ⟨z, hz, hzp⟩ := List.mem_map.1 h
        refine lastW_any e l _ _ ⟨z, hz, ?_⟩
        have h1 : z.ix = y.ix := congrArg Prod.fst hzp
        have h2 : z.sub = y.sub := congrArg Prod.snd hzp
        rw [← hy]; unfold It.pl; rw [h1, h2]
      · rw [if_neg hy]
    · exact ih _
theorem finI_last (its : List (Nat × E × V)) (l : List It) : finI its (lastL l) = finI its l := by
  unfold finI
  apply List.map_congr_left
  intro x _
  rw [lastW_last]
theorem finI_2 {its its' : List (Nat × E × V)} (h : its.map (·.2) = its'.map (·.2)) (l : List It) : (finI its l).map (·.2) = (finI its' l).map (·.2) := by
  have e : ∀ its : List (Nat × E × V), (finI its l).map (·.2) = (its.map (·.2)).map fun y => (y.1, lastW y.1 y.2 l) := fun its => by unfold finI; rw [List.map_map, List.map_map]; rfl
  rw [e, e, h]

/-! ### The places of the items that are not written again -/
def lastI : Nat → List It → List Nat
  | _, [] => []
  | k, x :: l => if x.pr ∈ l.map It.pr then lastI (k + 1) l else k :: lastI (k + 1) l
theorem lastI_get (l : List It) : ∀ (l' : List It) (k : Nat), l.drop k = l' → (lastI k l').map (fun i => l[i]?) = (lastL l').map some
  | [], k, h => rfl
  | x :: l', k, h => by
    have h1 : l[k]? = some x := by have := congrArg List.head? h; rwa [List.head?_drop] at this
    have h2 : l.drop (k + 1) = l' := by rw [← List.drop_drop, h]; rfl
    unfold lastI lastL
    split
    · exact lastI_get l l' (k + 1) h2
    · rw [List.map_cons, List.map_cons, h1, lastI_get l l' (k + 1) h2]
theorem lastI_lt : ∀ (l' : List It) (k : Nat), ∀ i ∈ lastI k l', k ≤ i ∧ i < k + l'.length
  | [], k, i, h => by cases h
  | x :: l', k, i, h => by
    unfold lastI at h
    split at h
    · have := lastI_lt l' (k + 1) i h
      simp; omega
    · rcases List.mem_cons.1 h with rfl | h
      · simp
      · have := lastI_lt l' (k + 1) i h
        simp; omega
theorem lastI_len : ∀ (l' : List It) (k : Nat), (lastI k l').length ≤ l'.length
  | [], k => Nat.le_refl _
  | x :: l', k => by
    have := lastI_len l' (k + 1)
    unfold lastI
    split
    · simp; omega
    · simp; exact this

end Go.Proofs.YtmllpkpdfhniaaaGreat
