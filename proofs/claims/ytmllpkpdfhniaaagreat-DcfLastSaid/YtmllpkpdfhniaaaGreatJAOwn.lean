/- Items in memory of their own: the statements' Own; slices.Clone at bytes. -/
import Derived.Test.YtmllpkpdfhniaaaGreatJAOdP
set_option linter.unusedVariables false
set_option linter.unusedSimpArgs false
namespace Go.Proofs.YtmllpkpdfhniaaaGreat
open Go.RowKit Go.Sort

/-- Items in memory of the call's own. -/
structure OI (w : World) (base : Nat) (v : Value) (js : List Jt) : Prop where
  row : w.ownsRow base 50 3 v js.length (js.map jcells).flatten
  bs : ∀ j ∈ js, OB w base j.2 j.1.b
  ap : ∀ j ∈ js, ∀ g, j.2.ownBlock = some g → v.ownBlock ≠ some g
  wf : ∀ j ∈ js, j.1.wf
theorem OI.fr {w w' : World} {base : Nat} {v : Value} {js : List Jt} (h : OI w base v js) (hf : Fr w w') : OI w' base v js := ⟨ownsRow_fr h.row hf, fun j hj => (h.bs j hj).fr hf, h.ap, h.wf⟩
theorem OI.rd {w : World} {base : Nat} {v : Value} {js : List Jt} (h : OI w base v js) : RdI w v js := ⟨Rd.of_own h.row, fun j hj => (h.bs j hj).rd, h.wf⟩
theorem OI.apart {w : World} {base lo hi : Nat} {v : Value} {js : List Jt} (h : OI w base v js) (hb : hi ≤ base) : apartI lo hi v js :=
  ⟨fun g hg => .inr (Nat.le_trans hb (h.row.lt g hg).1), fun j hj g hg => .inr (Nat.le_trans hb ((h.bs j hj).lt g hg).1)⟩
theorem infoItem : (Tryz.prog.info? 50).map (fun i => (i.zero, i.size, i.bytes)) = some (some (.agg #[.int .u16 0, .int .u8 0, .slice none 0 0]), 3, 32) := by kernel_rfl

/-- One item more. -/
theorem OI.push {w w' : World} {base : Nat} {v : Value} {js : List Jt} (h : OI w base v js) {j : Jt} (hj : OB w base j.2 j.1.b) (hw : j.1.wf) {W : World} (hW : Fr w W) (hgrow : W.grownBy w' v.ownBlock) {g cap : Nat}
    (hown : w'.ownsRow base 50 3 (.slice (some ⟨g, 0, none⟩) (js.length + 1) cap) (js.length + 1) ((js.map jcells).flatten ++ jcells j)) (hne : ∀ g, j.2.ownBlock = some g → v.ownBlock ≠ some g) (hat : v.ownBlock = some g ∨ w.heap.size ≤ g) :
    OI w' base (.slice (some ⟨g, 0, none⟩) (js.length + 1) cap) (js ++ [j]) := by
  have keep : ∀ y : Jt, OB w base y.2 y.1.b → (∀ g, y.2.ownBlock = some g → v.ownBlock ≠ some g) → OB w' base y.2 y.1.b := fun y hy hyn => by
    have h1 := hy.fr hW
    exact World.ownsRow.kept h1 hgrow (by
      cases hc : y.2.ownBlock with
      | none => exact .inl rfl
      | some g' => exact .inr (fun hh => hyn g' hc hh.symm))
  have notg : ∀ y : Jt, OB w base y.2 y.1.b → (∀ g, y.2.ownBlock = some g → v.ownBlock ≠ some g) → ∀ g', y.2.ownBlock = some g' → (Value.slice (some ⟨g, 0, none⟩) (js.length + 1) cap).ownBlock ≠ some g' := fun y hy hyn g' hg' hh => by
    have hh' : g = g' := by simpa [Value.ownBlock] using hh
    subst hh'
    rcases hat with hat | hat
    · exact hyn g hg' hat
    · have := (hy.lt g hg').2; omega
  refine ⟨?_, ?_, ?_, ?_⟩
  · simpa using hown
  · intro y hy
    rcases List.mem_append.1 hy with hy | hy
    · exact keep y (h.bs y hy) (h.ap y hy)
    · have : y = j := by simpa using hy
      subst this
      exact keep y hj hne
  · intro y hy
    rcases List.mem_append.1 hy with hy | hy
    · exact notg y (h.bs y hy) (h.ap y hy)
    · have : y = j := by simpa using hy
      subst this
      exact notg y hj hne
  · intro y hy
    rcases List.mem_append.1 hy with hy | hy
    · exact h.wf y hy
    · have : y = j := by simpa using hy
      subst this
      exact hw

set_option maxRecDepth 100000 in
set_option maxHeartbeats 2000000 in
theorem own_walk (b o cap : Nat) (js : List Jt) (w : World) (hlen : js.length * 32 ≤ 140737488355328 - 32) (hbig : ∀ j ∈ js, j.1.b.length ≤ 140737488355328) (hcap : js.length ≤ cap) (hb : b < w.heap.size)
    (hx : ∀ i u, (js.map jcells).flatten[i]? = some u → w.cell? ⟨b, o + i, none⟩ = some u) (hbs : ∀ j ∈ js, RdB w j.2 j.1.b) (hwf : ∀ j ∈ js, j.1.wf) :
    Calls Tryz.prog 24 #[.slice (some ⟨b, o, none⟩) js.length cap] w fun e w' => ∃ (v : Value) (js' : List Jt), e = .returned v ∧ jits js' = jits js ∧ OI w' w.heap.size v js' ∧ Fr w w' := by
  have HX := Lib.hid hx
  have HB := Lib.hid hbs
  have HW := Lib.hid hwf
  have HG := Lib.hid hbig
  clear hx hbs hwf hbig
  have hJ : jits js = js.map (·.1) := rfl
  go_enter Tryz.func24, Tryz.ntmps24
  go_wp2
  go_loopw [3, 4] (fun v3 i wr => ∃ (k : Nat) (js' : List Jt), k ≤ js.length ∧ i = .int .i64 k ∧ Fr w wr ∧ Hid (jits js' = (jits js).take k) ∧ OI wr w.heap.size v3 js') (fun _ i _ => js.length - (intOf i).toNat)
  case atStart => exact ⟨0, [], Nat.zero_le _, rfl, (Fr.refl w).alloc _, rfl, ⟨World.ownsRow_made w #[] 0 (Nat.le_refl _) (by simp [maxLen]) (by simp), by simp, by simp, by simp⟩⟩
  case round =>
    obtain ⟨k, js', hk, rfl, hF, hT, hO⟩ := hrel
    by_cases hlt : k < js.length
    · obtain ⟨j, hj⟩ : ∃ j, js[k]? = some j := ⟨js[k], List.getElem?_eq_getElem hlt⟩
      have hm := List.mem_of_getElem? hj
      have hcell : ∀ i u, (jcells j)[i]? = some u → wr.cell? ⟨b, o + (k * 3 + i), none⟩ = some u := fun i u hu => (hF.cells b _ hb).trans (HX.out _ u ((flat_at jcells 3 jlen js k i j hj (List.getElem?_eq_some_iff.1 hu).1).trans hu))
      have hRB := (HB.out j hm).fr hF
      have hjw := HW.out j hm
      have hjl := HG.out j hm
      have hjt := jits_at hj
      have hl' : js'.length = k := by
        have := congrArg List.length hT.out
        rw [jits_len, List.length_take, jits_len] at this
        omega
      obtain ⟨vA, vc, hjv⟩ : ∃ A c, j.2 = .slice A j.1.b.length c := by
        obtain ⟨_, A, c, hv, _⟩ := hRB
        exact ⟨A, c, hv⟩
      obtain ⟨⟨ix, sub, bl⟩, bv⟩ := j
      dsimp only at hjv hRB hjl
      subst hjv
      have q0 : wr.cell? ⟨b, o + k * 3, none⟩ = some (.int .u16 ix) := (congrArg (fun z => wr.cell? ⟨b, z, none⟩) (by omega)).trans (hcell 0 _ rfl)
      have q1 : wr.cell? ⟨b, o + k * 3 + 1, none⟩ = some (.int .u8 sub) := (congrArg (fun z => wr.cell? ⟨b, z, none⟩) (by omega)).trans (hcell 1 _ rfl)
      have q2 : wr.cell? ⟨b, o + k * 3 + 2, none⟩ = some (.slice vA bl.length vc) := (congrArg (fun z => wr.cell? ⟨b, z, none⟩) (by omega)).trans (hcell 2 _ rfl)
      have HRB := Lib.hid hRB
      have HO := Lib.hid hO
      have HJT := Lib.hid hjt
      have HJW := Lib.hid hjw
      have hwz := hF.size
      clear hcell hj hm hRB hO hjt hjw
      obtain ⟨i0, hi0, hiz0, hiz1, hiz2⟩ := info_parts infoByte
      obtain ⟨i1, hi1, hiy0, hiy1, hiy2⟩ := info_parts infoItem
      go_wp2_with (first | (at_builtin; refine wpList_append_rd _ (by rfl) (.tmp 17) (.tmp 19) _ (by rfl) w.heap.size 5 i0 (.int .u8 0) 1 1 Tryz.underlying36 hi0 hiz0 hiz1 hiz2 rfl (by omega) (.slice (some ⟨wr.heap.size + 1, 0, none⟩) 0 0) 0 (bcs []) (by rfl) (made_bytes' (by simp; omega) (by simp)) _ bl.length (bcs bl) (by rfl) (HRB.out.fr (by (repeat (with_reducible first | exact Fr.refl _ | assumption | refine Fr.alloc ?_ _ | refine Fr.drew ?_ | refine Fr.drewN ?_ _ | refine Fr.set ?_ (by first | (simp; done) | (simp; omega)) _ | refine Fr.trans ?_ (by assumption))))) (bcs_one _) (by simp only [maxLen]; omega) (by omega) (by simp; omega) ?_; intro v6 w6 hown6 hgrow6; have hO6 : Hid (OB w6 w.heap.size v6 bl) := Lib.hid (by simpa [OB, bcs] using hown6); obtain ⟨A6, c6, hv6⟩ := OB.slice hO6.out; subst hv6; have hF6 : Fr wr w6 := Fr.grown (by (repeat (with_reducible first | exact Fr.refl _ | assumption | refine Fr.alloc ?_ _ | refine Fr.drew ?_ | refine Fr.drewN ?_ _ | refine Fr.set ?_ (by first | (simp; done) | (simp; omega)) _ | refine Fr.trans ?_ (by assumption)))) hgrow6 (fun r hr => by simp [Value.ownBlock] at hr; omega); have hz6 : wr.heap.size + 1 < w6.heap.size := (by have := hgrow6.size; simp at this; omega); have f6 : ∀ o, w6.frozen? ⟨wr.heap.size, o, none⟩ = false := (fun o => (hgrow6.frozen_far _ (by simp; omega) (by simp [Value.ownBlock])).trans (by simp)); have k60 : w6.cell? ⟨wr.heap.size, 0, none⟩ = some (.int .u16 ix) := ((hgrow6.cell_far _ (by simp; omega) (by simp [Value.ownBlock])).trans (by simp)); have k61 : w6.cell? ⟨wr.heap.size, 1, none⟩ = some (.int .u8 sub) := ((hgrow6.cell_far _ (by simp; omega) (by simp [Value.ownBlock])).trans (by simp)); have k62 : w6.cell? ⟨wr.heap.size, 2, none⟩ = some (.slice vA bl.length vc) := ((hgrow6.cell_far _ (by simp; omega) (by simp [Value.ownBlock])).trans (by simp)); have hgrow6' := Lib.hid hgrow6; clear hown6 hgrow6) | (at_builtin; refine wpList_append_lies _ (by rfl) (.tmp 22) (.tmp 24) _ (by rfl) w.heap.size 50 i1 _ 3 32 Tryz.underlying23 hi1 hiy0 hiy1 hiy2 rfl (by omega) u3 js'.length (js'.map jcells).flatten (by rfl) (ownsRow_fr HO.out.row (by (repeat (with_reducible first | exact Fr.refl _ | assumption | refine Fr.alloc ?_ _ | refine Fr.drew ?_ | refine Fr.drewN ?_ _ | refine Fr.set ?_ (by first | (simp; done) | (simp; omega)) _ | refine Fr.trans ?_ (by assumption))))) ⟨w6.heap.size, 0, none⟩ 1 1 [.int .u16 ix, .int .u8 sub, .slice A6 bl.length c6] (by rfl) (by rfl) (World.news_of_block (cs := #[.int .u16 ix, .int .u8 sub, .slice A6 bl.length c6]) (t := 50) (fr := (0, 0)) (newsSet _ _ _ _)) (by simp [Value.oneCell']) (by omega) (by simp only [maxLen]; omega) (by omega) (by simp; omega) (w6.heap.size + 1) (by simp) ?_; intro g c8 w8 hown8 hgrow8 hat8 hlt8))
      go_roundw
      case rel =>
        have hBx : w6.heap[wr.heap.size]? = some (.cells #[.int .u16 ix, .int .u8 sub, .slice vA bl.length vc] 50 (0, 0)) := by
          rw [hgrow6'.out.block wr.heap.size (by simp; omega) (by simp [Value.ownBlock]), heapOld _ _ _ (by simp)]
          exact heap_alloc_new wr _
        have hOs := ownsRow_set hO6.out ⟨wr.heap.size, 2, none⟩ (.slice A6 bl.length c6) (fun hh => by
          obtain ⟨cur, hc⟩ := ownsRow_ty hO6.out hh
          rw [show w6.heap[(⟨wr.heap.size, 2, none⟩ : Addr).block]? = _ from hBx] at hc
          simp at hc)
        have hOW : OB ((w6.setCell ⟨wr.heap.size, 2, none⟩ (.slice A6 bl.length c6)).alloc (.cells #[.int .u16 ix, .int .u8 sub, .slice A6 bl.length c6] 50)) w.heap.size (.slice A6 bl.length c6) bl := ownsRow_fr hOs ((Fr.refl _).alloc _)
        have hFW : Fr wr ((w6.setCell ⟨wr.heap.size, 2, none⟩ (.slice A6 bl.length c6)).alloc (.cells #[.int .u16 ix, .int .u8 sub, .slice A6 bl.length c6] 50)) := by (repeat (with_reducible first | exact Fr.refl _ | assumption | refine Fr.alloc ?_ _ | refine Fr.drew ?_ | refine Fr.drewN ?_ _ | refine Fr.set ?_ (by first | (simp; done) | (simp; omega)) _ | refine Fr.trans ?_ (by assumption)))
        have hOI := HO.out.fr hFW
        have hP := OI.push hOI (j := (⟨ix, sub, bl⟩, .slice A6 bl.length c6)) hOW HJW.out (Fr.refl _) hgrow8 hown8 (fun g' hg' => ownsRow_ne hOW hOI.row (by decide) hg') (hat8.imp id (fun h => by rw [h]; simp))
        rw [hl'] at hP
        refine ⟨k + 1, _, by omega, by go_num, Fr.grown (hF.trans hFW) hgrow8 (fun r hr => (HO.out.row.lt r hr).1), ?_, hP⟩
        show jits (js' ++ _) = _
        rw [List.take_add_one, HJT.out, ← hT.out]
        simp [jits]
      case measure =>
        show js.length - ((k : Int) + 1).toNat < js.length - ((k : Int)).toNat
        omega
    · have hkl : k = js.length := by omega
      subst hkl
      have hnl : ¬ ((js.length : Nat) : Int) < (js.length : Nat) := by omega
      have HO := Lib.hid hO
      clear hO
      go_wp2
      go_ret
      refine ⟨u3, rfl, js', ?_, HO.out, hF⟩
      have := hT.out
      rw [this]
      exact List.take_of_length_le (by rw [jits_len]; exact Nat.le_refl _)

theorem own_nil (A : Option Addr) (c : Nat) (w : World) : Calls Tryz.prog 24 #[.slice A 0 c] w fun e w' => ∃ v, e = .returned v ∧ OI w' w.heap.size v [] ∧ Fr w w' := by
  go_enter Tryz.func24, Tryz.ntmps24
  go_wp2
  refine wp_loop_rounds 1 ?_
  rw [rounds_succ]
  go_wp2
  go_ret
  exact ⟨_, rfl, ⟨World.ownsRow_made w #[] 0 (Nat.le_refl _) (by simp [maxLen]) (by simp), by simp, by simp, by simp⟩, by (repeat (with_reducible first | exact Fr.refl _ | assumption | refine Fr.alloc ?_ _ | refine Fr.drew ?_ | refine Fr.drewN ?_ _ | refine Fr.set ?_ (by first | (simp; done) | (simp; omega)) _ | refine Fr.trans ?_ (by assumption)))⟩

/-- Own: items in memory of their own. -/
theorem own_any {w : World} {v : Value} {js : List Jt} (h : RdI w v js) (hlen : js.length * 32 ≤ 140737488355328 - 32) (hbig : ∀ j ∈ js, j.1.b.length ≤ 140737488355328) :
    Calls Tryz.prog 24 #[v] w fun e w' => ∃ (v : Value) (js' : List Jt), e = .returned v ∧ jits js' = jits js ∧ OI w' w.heap.size v js' ∧ Fr w w' := by
  obtain ⟨⟨hl, A, c, rfl, hcap, hmax, hx⟩, hbs, hwf⟩ := h
  have nilc : ∀ A, js = [] → Calls Tryz.prog 24 #[.slice A js.length c] w fun e w' => ∃ (v : Value) (js' : List Jt), e = .returned v ∧ jits js' = jits js ∧ OI w' w.heap.size v js' ∧ Fr w w' := fun A h0 => by
    subst h0
    exact (own_nil A c w).mono fun e w' hh => by
      obtain ⟨v, h1, h2, h3⟩ := hh
      exact ⟨v, [], h1, rfl, h2, h3⟩
  rcases hx with h0 | ⟨b, o, rfl, hb, hx⟩
  · exact nilc A (List.eq_nil_of_length_eq_zero h0)
  · exact own_walk b o c js w hlen hbig hcap hb hx hbs hwf

end Go.Proofs.YtmllpkpdfhniaaaGreat
