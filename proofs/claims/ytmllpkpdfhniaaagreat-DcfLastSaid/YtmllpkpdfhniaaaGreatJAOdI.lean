/- The program's od.find: the search among sorted items. -/
import Derived.Test.YtmllpkpdfhniaaaGreatJAOdH
set_option linter.unusedVariables false
set_option linter.unusedSimpArgs false
namespace Go.Proofs.YtmllpkpdfhniaaaGreat
open Go.RowKit Go.Sort
attribute [local irreducible] Go.wpQuiet

theorem PD.slice {w : World} {db lo hi : Nat} {vl : Value} {its : List (Nat × E × V)} (h : PD w db lo hi vl its) (hne : its ≠ []) :
    ∃ g cap : Nat, vl = .slice (some ⟨g, 0, none⟩) its.length cap ∧ g < w.heap.size ∧ its.length ≤ cap ∧ ∀ j x, its[j]? = some x → w.cell? ⟨g, j, none⟩ = some (.pointer (some ⟨x.1, 0, none⟩)) := by
  rcases h.row.2 with ⟨_, h0⟩ | ⟨g, cap, cur, hv, hlg, hg, hcap, hmax, hcs, htake⟩
  · exact absurd (List.length_eq_zero_iff.1 h0) hne
  · refine ⟨g, cap, hv, (Array.getElem?_eq_some_iff.1 hg).1, hcap, fun j x hx => ?_⟩
    have hj := (List.getElem?_eq_some_iff.1 hx).1
    have h1 : (cur.toList.take (its.length * 1))[j]? = some (.pointer (some ⟨x.1, 0, none⟩)) := by rw [htake]; simp [ptrs, hx]
    rw [List.getElem?_take_of_lt (by omega)] at h1
    simp only [World.cell?, hg]
    simpa using h1
theorem PD.slice0 {w : World} {db lo hi : Nat} {vl : Value} (h : PD w db lo hi vl []) : ∃ (A : Option Addr) (cap : Nat), vl = .slice A 0 cap := by
  rcases h.row.2 with ⟨h0, _⟩ | ⟨g, cap, cur, hv, _⟩
  · exact ⟨_, _, h0⟩
  · exact ⟨_, _, hv⟩

theorem pairwise_at {its : List (Nat × E × V)} (h : (its.map plS).Pairwise (· < ·)) (i j : Nat) (x y : Nat × E × V) (hij : i < j) (hx : its[i]? = some x) (hy : its[j]? = some y) : plS x < plS y := by
  rw [List.pairwise_map] at h
  obtain ⟨hi, rfl⟩ := List.getElem?_eq_some_iff.1 hx
  obtain ⟨hj, rfl⟩ := List.getElem?_eq_some_iff.1 hy
  exact List.pairwise_iff_getElem.1 h i j hi hj hij

def cntB (its : List (Nat × E × V)) (p : Int) : Nat := its.countP fun x => decide (plS x < p)
theorem cntB_eq {its : List (Nat × E × V)} {p : Int} {hi : Nat} (hin : hi ≤ its.length) (h1 : ∀ t x, t < hi → its[t]? = some x → plS x < p) (h2 : ∀ t x, hi ≤ t → its[t]? = some x → p ≤ plS x) : cntB its p = hi := by
  unfold cntB
  rw [← List.take_append_drop hi its, List.countP_append]
  have e1 : (its.take hi).countP (fun x => decide (plS x < p)) = hi := by
    rw [List.countP_eq_length.2]
    · simp [Nat.min_eq_left hin]
    · intro x hx
      obtain ⟨t, ht, rfl⟩ := List.getElem_of_mem hx
      have ht' : t < hi := by simp at ht; omega
      have := h1 t _ ht' (List.getElem?_eq_getElem (Nat.lt_of_lt_of_le ht' hin))
      simpa using this
  have e2 : (its.drop hi).countP (fun x => decide (plS x < p)) = 0 := by
    rw [List.countP_eq_zero]
    intro x hx
    obtain ⟨t, ht, rfl⟩ := List.getElem_of_mem hx
    have := h2 (hi + t) _ (Nat.le_add_right _ _) (List.getElem?_eq_getElem (by simp at ht; omega))
    simpa using this
  rw [e1, e2, Nat.add_zero]

/-- What the search hands back. -/
def Found (its : List (Nat × E × V)) (p : Int) (e : Ending) : Prop :=
  (∃ (i : Nat) (x : Nat × E × V), its[i]? = some x ∧ plS x = p ∧ e = .returned (.tuple #[.int .i64 i, .bool true])) ∨ ((∀ x ∈ its, plS x ≠ p) ∧ e = .returned (.tuple #[.int .i64 (cntB its p : Nat), .bool false]))

theorem bs_nil (A : Option Addr) (c : Nat) (px py : Int) (w : World) : Calls Tryz.prog 155 #[.slice A 0 c, .agg #[.int .u16 px, .int .u8 py], .func (.func 156) #[] #[]] w fun e w' => e = .returned (.tuple #[.int .i64 0, .bool false]) ∧ Gr w w' := by
  have mx := mixed
  go_enter Tryz.func155, Tryz.ntmps155
  go_wp2_with fail
  refine wp_loop_rounds 1 ?_
  rw [rounds_succ]
  go_wp2_with fail
  refine wp_region_quiet_grown (by assumption) (by kernel_rfl) ?_
  iterate 16 (quiet_step (fail))
  refine wpQuiet_nil ?_
  intro _ hw'
  obtain ⟨⟨nq, osq⟩, hw''⟩ := hw'
  subst hw''
  go_wp2
  go_ret2
  exact ⟨rfl, Gr.trans ((Gr.refl w).alloc _) ⟨_, _, rfl⟩⟩

set_option maxHeartbeats 2000000 in
theorem bs_walk (its : List (Nat × E × V)) (g cap : Nat) (px py : Int) (w : World) (hne : 0 < its.length) (hlen : its.length ≤ 1024) (hcap : its.length ≤ cap) (hg : g < w.heap.size)
    (hc : ∀ j x, its[j]? = some x → w.cell? ⟨g, j, none⟩ = some (.pointer (some ⟨x.1, 0, none⟩))) (hi : ∀ x ∈ its, ItemAt w x.1 x.2.1 x.2.2) (hw : ∀ x ∈ its, x.2.1.wf) (hs : (its.map plS).Pairwise (· < ·)) (hp : 0 ≤ py ∧ py ≤ 255) :
    Calls Tryz.prog 155 #[.slice (some ⟨g, 0, none⟩) its.length cap, .agg #[.int .u16 px, .int .u8 py], .func (.func 156) #[] #[]] w fun e w' => Found its (px * 256 + py) e ∧ Gr w w' := by
  have mx := mixed
  have HC := Lib.hid hc
  have HI := Lib.hid hi
  have HW := Lib.hid hw
  have HS := Lib.hid hs
  have HP := Lib.hid hp
  clear hc hi hw hs hp
  go_enter Tryz.func155, Tryz.ntmps155
  go_wp2_with fail
  go_loopg [9, 10] its.length (fun kx s9 s10 wr => ∃ lo hi : Nat, s9 = .int .i64 lo ∧ s10 = .int .i64 hi ∧ lo ≤ hi ∧ hi ≤ its.length ∧ hi - lo ≤ kx ∧ Gr (w.alloc (.cells #[.int .u16 px, .int .u8 py] 216)) wr ∧
    Hid ((∀ t x, t < lo → its[t]? = some x → plS x < px * 256 + py) ∧ (∀ t x, hi ≤ t → its[t]? = some x → px * 256 + py ≤ plS x)))
  case atStart => exact ⟨0, its.length, rfl, rfl, Nat.zero_le _, Nat.le_refl _, by omega, Gr.refl _, Lib.hid ⟨fun t x ht _ => absurd ht (Nat.not_lt_zero _), fun t x h1 h2 => by have := (List.getElem?_eq_some_iff.1 h2).1; omega⟩⟩
  case round =>
    obtain ⟨lo, hi, rfl, rfl, hlh, hin, hgk, hF, I⟩ := hrel
    by_cases hlt : lo < hi
    · obtain ⟨x, hx⟩ : ∃ x, its[(lo + hi) / 2]? = some x := ⟨its[(lo + hi) / 2]'(by omega), List.getElem?_eq_getElem _⟩
      have hm := List.mem_of_getElem? hx
      have hFw : Fr w wr := ((Fr.refl w).alloc _).trans hF.fr
      have hmm : ((lo : Int) + (hi : Int)) / 2 = (((lo + hi) / 2 : Nat) : Int) := by omega
      have hm0 : lo ≤ (lo + hi) / 2 := by omega
      have hm1 : (lo + hi) / 2 < hi := by omega
      have hm2 : (lo + hi) / 2 < its.length := by omega
      generalize (lo + hi) / 2 = m at *
      have hm3 : (m : Int) < (its.length : Int) := by omega
      have hm4 : decide ((m : Int) < (its.length : Int)) = true := by simpa using hm2
      have cm : ∀ n os, (grow (wr.drewN n) os).cell? ⟨g, m, none⟩ = some (.pointer (some ⟨x.1, 0, none⟩)) := fun n os => (hFw.trans (Gr.fr ⟨n, os, rfl⟩)).cell (HC.out _ _ hx)
      have hb0 : ∀ n os, (grow (wr.drewN n) os).cell? ⟨w.heap.size, 0, none⟩ = some (.int .u16 px) := fun n os => (hF.fr.trans (Gr.fr ⟨n, os, rfl⟩)).cell (by simp [World.cell?_alloc_at])
      have hb1 : ∀ n os, (grow (wr.drewN n) os).cell? ⟨w.heap.size, 1, none⟩ = some (.int .u8 py) := fun n os => (hF.fr.trans (Gr.fr ⟨n, os, rfl⟩)).cell (by simp [World.cell?_alloc_at])
      have hcmp := fun n os => findcmp_any x.1 x.2.1 x.2.2 px py (grow (wr.drewN n) os) ((HI.out x hm).fr (hFw.trans (Gr.fr ⟨n, os, rfl⟩)))
      have hol := ordP_lt x.2.1.ix x.2.1.sub px py (HW.out x hm).2.1 HP.out
      have hoe := ordP_eq x.2.1.ix x.2.1.sub px py (HW.out x hm).2.1 HP.out
      have HX := Lib.hid hx
      have HOL := Lib.hid hol
      have HOE := Lib.hid hoe
      clear hx hol hoe
      generalize ordP x.2.1.ix x.2.1.sub px py = r at *
      by_cases hr : r < 0
      · go_wp2_with fail
        clear hmm
        refine wp_region_quiet_grown (by assumption) (by kernel_rfl) ?_
        iterate 6 (quiet_step (fail))
        quiet_step (refine Calls.grown_of (hcmp _ _))
        repeat (quiet_step (fail))
        refine wpQuiet_nil ?_
        intro _ hw'
        obtain ⟨⟨nq, osq⟩, hw''⟩ := hw'
        subst hw''
        go_wp2_with fail
        go_roundg (hi - (m + 1))
        case measure => omega
        case rel =>
          exact ⟨m + 1, hi, by go_num, rfl, by omega, hin, Nat.le_refl _, Gr.trans hF ⟨_, _, rfl⟩, Lib.hid ⟨fun t y ht hy => (by
            by_cases htm : t = m
            · subst htm
              have : y = x := Option.some.inj (hy.symm.trans HX.out)
              subst this
              exact HOL.out.1 hr
            · have h1 := pairwise_at HS.out t m y x (by omega) hy HX.out
              have h2 : plS x < px * 256 + py := HOL.out.1 hr
              omega), I.out.2⟩⟩
      · go_wp2_with fail
        clear hmm
        refine wp_region_quiet_grown (by assumption) (by kernel_rfl) ?_
        iterate 6 (quiet_step (fail))
        quiet_step (refine Calls.grown_of (hcmp _ _))
        repeat (quiet_step (fail))
        refine wpQuiet_nil ?_
        intro _ hw'
        obtain ⟨⟨nq, osq⟩, hw''⟩ := hw'
        subst hw''
        go_wp2_with fail
        go_roundg (m - lo)
        case measure => omega
        case rel =>
          exact ⟨lo, m, rfl, by go_num, by omega, by omega, Nat.le_refl _, Gr.trans hF ⟨_, _, rfl⟩, Lib.hid ⟨I.out.1, fun t y ht hy => (by
            have h2 : ¬ plS x < px * 256 + py := fun h => by have := HOL.out.2 h; omega
            by_cases htm : t = m
            · subst htm
              have : y = x := Option.some.inj (hy.symm.trans HX.out)
              subst this
              omega
            · have h1 := pairwise_at HS.out m t x y (by omega) HX.out hy
              omega)⟩⟩
    · obtain rfl : hi = lo := by omega
      by_cases hn : hi < its.length
      · obtain ⟨x, hx⟩ : ∃ x, its[hi]? = some x := ⟨its[hi]'(by omega), List.getElem?_eq_getElem _⟩
        have hm := List.mem_of_getElem? hx
        have hFw : Fr w wr := ((Fr.refl w).alloc _).trans hF.fr
        have cm : ∀ n os, (grow (wr.drewN n) os).cell? ⟨g, hi, none⟩ = some (.pointer (some ⟨x.1, 0, none⟩)) := fun n os => (hFw.trans (Gr.fr ⟨n, os, rfl⟩)).cell (HC.out _ _ hx)
        have hb0 : ∀ n os, (grow (wr.drewN n) os).cell? ⟨w.heap.size, 0, none⟩ = some (.int .u16 px) := fun n os => (hF.fr.trans (Gr.fr ⟨n, os, rfl⟩)).cell (by simp [World.cell?_alloc_at])
        have hb1 : ∀ n os, (grow (wr.drewN n) os).cell? ⟨w.heap.size, 1, none⟩ = some (.int .u8 py) := fun n os => (hF.fr.trans (Gr.fr ⟨n, os, rfl⟩)).cell (by simp [World.cell?_alloc_at])
        have hcmp := fun n os => findcmp_any x.1 x.2.1 x.2.2 px py (grow (wr.drewN n) os) ((HI.out x hm).fr (hFw.trans (Gr.fr ⟨n, os, rfl⟩)))
        have hol := ordP_lt x.2.1.ix x.2.1.sub px py (HW.out x hm).2.1 HP.out
        have hoe := ordP_eq x.2.1.ix x.2.1.sub px py (HW.out x hm).2.1 HP.out
        have HX := Lib.hid hx
        have HOL := Lib.hid hol
        have HOE := Lib.hid hoe
        clear hx hol hoe
        generalize ordP x.2.1.ix x.2.1.sub px py = r at *
        have hd : decide ((hi : Int) < (its.length : Int)) = true := by simpa using hn
        by_cases hr : r = 0
        · go_wp2_with fail
          refine wp_region_quiet_grown (by assumption) (by kernel_rfl) ?_
          iterate 11 (quiet_step (fail))
          quiet_step (refine Calls.grown_of (hcmp _ _))
          repeat (quiet_step (fail))
          refine wpQuiet_nil ?_
          intro _ hw'
          obtain ⟨⟨nq, osq⟩, hw''⟩ := hw'
          subst hw''
          go_wp2_with fail
          go_ret2
          exact ⟨.inl ⟨hi, x, HX.out, HOE.out.1 hr, by simp [hr]⟩, Gr.trans (Gr.trans ((Gr.refl w).alloc _) hF) ⟨_, _, rfl⟩⟩
        · go_wp2_with fail
          refine wp_region_quiet_grown (by assumption) (by kernel_rfl) ?_
          iterate 11 (quiet_step (fail))
          quiet_step (refine Calls.grown_of (hcmp _ _))
          repeat (quiet_step (fail))
          refine wpQuiet_nil ?_
          intro _ hw'
          obtain ⟨⟨nq, osq⟩, hw''⟩ := hw'
          subst hw''
          go_wp2_with fail
          go_ret2
          refine ⟨.inr ⟨fun y hy hpy => ?_, by rw [cntB_eq hin I.out.1 I.out.2]; simp [hr]⟩, Gr.trans (Gr.trans ((Gr.refl w).alloc _) hF) ⟨_, _, rfl⟩⟩
          obtain ⟨t, ht, rfl⟩ := List.getElem_of_mem hy
          have ht' := List.getElem?_eq_getElem ht
          have hne : plS x ≠ px * 256 + py := fun h => hr (HOE.out.2 h)
          by_cases h1 : t < hi
          · have := I.out.1 t _ h1 ht'; omega
          · by_cases h2 : t = hi
            · subst h2
              exact hne (by rw [show x = its[t] from Option.some.inj (HX.out.symm.trans ht')]; exact hpy)
            · have h3 := I.out.2 hi x (Nat.le_refl _) HX.out
              have h4 := pairwise_at HS.out hi t x _ (by omega) HX.out ht'
              omega
      · have hd : decide ((hi : Int) < (its.length : Int)) = false := by simpa using hn
        go_wp2_with fail
        refine wp_region_quiet_grown (by assumption) (by kernel_rfl) ?_
        repeat (quiet_step (fail))
        refine wpQuiet_nil ?_
        intro _ hw'
        obtain ⟨⟨nq, osq⟩, hw''⟩ := hw'
        subst hw''
        go_wp2_with fail
        go_ret2
        refine ⟨.inr ⟨fun y hy hpy => ?_, by rw [cntB_eq hin I.out.1 I.out.2]; rfl⟩, Gr.trans (Gr.trans ((Gr.refl w).alloc _) hF) ⟨_, _, rfl⟩⟩
        obtain ⟨t, ht, rfl⟩ := List.getElem_of_mem hy
        have := I.out.1 t _ (by omega) (List.getElem?_eq_getElem ht)
        omega

theorem bs_any {w : World} {db lo hi : Nat} {vl : Value} {its : List (Nat × E × V)} (h : PD w db lo hi vl its) (hlen : its.length ≤ 1024) (hw : ∀ x ∈ its, x.2.1.wf) (hs : (its.map plS).Pairwise (· < ·)) (px py : Int) (hp : 0 ≤ py ∧ py ≤ 255) :
    Calls Tryz.prog 155 #[vl, .agg #[.int .u16 px, .int .u8 py], .func (.func 156) #[] #[]] w fun e w' => Found its (px * 256 + py) e ∧ Gr w w' := by
  by_cases hne : its = []
  · subst hne
    obtain ⟨A, cap, rfl⟩ := h.slice0
    exact (bs_nil A cap px py w).mono fun e w' h => ⟨.inr ⟨by simp, h.1⟩, h.2⟩
  · obtain ⟨g, cap, rfl, hg, hcap, hcl⟩ := h.slice hne
    exact bs_walk its g cap px py w (List.length_pos_iff.2 hne) hlen hcap hg hcl h.items hw hs hp

end Go.Proofs.YtmllpkpdfhniaaaGreat
