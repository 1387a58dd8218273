/- dcf.Last. dcf.Last, at every slice of items. -/
import Derived.Test.YtmllpkpdfhniaaaGreatJBLaD
set_option linter.unusedVariables false
set_option linter.unusedSimpArgs false
namespace Go.Proofs.YtmllpkpdfhniaaaGreat
open Go.RowKit Go.Sort

theorem OI.mono {w : World} {b1 b2 : Nat} {v : Value} {js : List Jt} (h : OI w b1 v js) (hb : b2 ≤ b1) : OI w b2 v js := ⟨ownsRow_mono h.row hb, fun j hj => (h.bs j hj).mono hb, h.ap, h.wf⟩
theorem last_at (l : List It) (k : Nat) (x : It) (h : (lastL l)[k]? = some x) : ∃ i, (lastI 0 l)[k]? = some i ∧ l[i]? = some x := by
  have hg := lastI_get l l 0 (by simp)
  have h1 := congrArg (fun z => z[k]?) hg
  simp only [List.getElem?_map, h, Option.map_some] at h1
  cases hi : (lastI 0 l)[k]? with
  | none => rw [hi] at h1; cases h1
  | some i =>
    rw [hi] at h1
    exact ⟨i, rfl, by simpa using h1⟩
theorem last_same_len (l : List It) : (lastI 0 l).length = (lastL l).length := by
  have := congrArg List.length (lastI_get l l 0 (by simp))
  simpa using this

set_option maxRecDepth 100000 in
set_option maxHeartbeats 2000000 in
theorem last_walk (b o cap : Nat) (js : List Jt) (w : World) (hlen : js.length * 32 ≤ 140737488355328 - 32) (hbig : ∀ j ∈ js, j.1.b.length ≤ 140737488355328) (hcap : js.length ≤ cap) (hb : b < w.heap.size) (hc2 : cap ≤ 9223372036854775807)
    (hx : ∀ i u, (js.map jcells).flatten[i]? = some u → w.cell? ⟨b, o + i, none⟩ = some u) (hbs : ∀ j ∈ js, RdB w j.2 j.1.b) (hwf : ∀ j ∈ js, j.1.wf) :
    Calls Tryz.prog 26 #[.slice (some ⟨b, o, none⟩) js.length cap] w fun e w' => ∃ (v : Value) (js' : List Jt), e = .returned v ∧ jits js' = lastL (jits js) ∧ OI w' w.heap.size v js' ∧ Fr w w' := by
  have hbv : ∀ j ∈ js, ∃ (A : Option Addr) (n c : Nat), j.2 = .slice A n c := fun j hj => by
    obtain ⟨_, A, c, hv, _⟩ := hbs j hj
    exact ⟨A, _, c, hv⟩
  have hRR : Rd w 3 (.slice (some ⟨b, o, none⟩) js.length cap) js.length (js.map jcells).flatten := ⟨flat_len jcells 3 jlen js, _, _, rfl, hcap, hc2, .inr ⟨b, o, rfl, hb, hx⟩⟩
  have HLA := callsIn_wide.1 (lasts_walk (some ⟨b, o, none⟩) cap js w hbv hRR (by omega))
  have hll := last_same_len (jits js)
  have hln := lastL_len (jits js)
  rw [jits_len] at hln
  have HLT := Lib.hid (last_at (jits js))
  have HX := Lib.hid hx
  have HB := Lib.hid hbs
  have HW := Lib.hid hwf
  have HG := Lib.hid hbig
  clear hx hbs hwf hbig hRR hbv hc2
  obtain ⟨n, hn⟩ : ∃ n, n = (lastI 0 (jits js)).length := ⟨_, rfl⟩
  have hnn : n ≤ js.length := by omega
  have hn2 : n = (lastL (jits js)).length := by omega
  have HN := Lib.hid hn
  have HN2 := Lib.hid hn2
  clear hll hln
  go_enter Tryz.func26, Tryz.ntmps26
  go_wp2_with (go_at_call 97; refine HLA.mono ?_; rintro e w1 ⟨v1, rfl, hR1, hF1⟩; obtain ⟨h1l, A1, c1, hv1, h1n, h1c, h1x⟩ := hR1; rw [← HN.out] at hv1 h1n h1x; subst hv1; have H1X := Lib.hid h1x; clear h1x h1l h1c hn hn2)
  go_loopw [3, 10] (fun v3 i wr => ∃ (k : Nat) (js' : List Jt), k ≤ n ∧ i = .int .i64 k ∧ Fr w1 wr ∧ Hid (jits js' = (lastL (jits js)).take k) ∧ OI wr w1.heap.size v3 js') (fun _ i _ => n - (intOf i).toNat)
  case atStart => exact ⟨0, [], Nat.zero_le _, rfl, Fr.refl _, rfl, ⟨World.ownsRow_nil _ _ _ _, by simp, by simp, by simp⟩⟩
  case round =>
    obtain ⟨k, js', hk, rfl, hF, hT, hO⟩ := hrel
    by_cases hlt : k < n
    · obtain ⟨x, hxx⟩ : ∃ x, (lastL (jits js))[k]? = some x := ⟨_, List.getElem?_eq_getElem (by rw [← HN2.out]; exact hlt)⟩
      obtain ⟨m, hm1, hm2⟩ := HLT.out k x hxx
      have hmlt : m < js.length := by have := (List.getElem?_eq_some_iff.1 hm2).1; rwa [jits_len] at this
      obtain ⟨j, hj⟩ : ∃ j, js[m]? = some j := ⟨js[m], List.getElem?_eq_getElem hmlt⟩
      have hjx : j.1 = x := by have := (jits_at hj).symm.trans hm2; exact Option.some.inj this
      have hm := List.mem_of_getElem? hj
      have hFw := hF1.trans hF
      have hcell : ∀ i u, (jcells j)[i]? = some u → wr.cell? ⟨b, o + (m * 3 + i), none⟩ = some u := fun i u hu => (hFw.cells b _ hb).trans (HX.out _ u ((flat_at jcells 3 jlen js m i j hj (List.getElem?_eq_some_iff.1 hu).1).trans hu))
      have hRB := (HB.out j hm).fr hFw
      have hjw := HW.out j hm
      have hjl := HG.out j hm
      have hl' : js'.length = k := by
        have := congrArg List.length hT.out
        rw [jits_len, List.length_take] at this
        have := HN2.out
        omega
      obtain ⟨g1, o1, rfl, hix⟩ : ∃ g1 o1, A1 = some ⟨g1, o1, none⟩ ∧ wr.cell? ⟨g1, o1 + k, none⟩ = some (.int .i64 (m : Int)) := by
        rcases H1X.out with h0 | ⟨g1, o1, hA, hg1, hh⟩
        · omega
        · refine ⟨g1, o1, hA, (hF.cells g1 _ hg1).trans (hh k _ ?_)⟩
          unfold ics
          rw [List.getElem?_map, hm1]
          rfl
      obtain ⟨vA, vc, hjv⟩ : ∃ A c, j.2 = .slice A j.1.b.length c := by
        obtain ⟨_, A, c, hv, _⟩ := hRB
        exact ⟨A, c, hv⟩
      have htk : (lastL (jits js)).take (k + 1) = (lastL (jits js)).take k ++ [j.1] := by rw [List.take_add_one, hxx, hjx]; rfl
      obtain ⟨⟨ix, sub, bl⟩, bv⟩ := j
      dsimp only at hjv hRB hjl hjx htk
      subst hjv
      have q0 : wr.cell? ⟨b, o + m * 3, none⟩ = some (.int .u16 ix) := (congrArg (fun z => wr.cell? ⟨b, z, none⟩) (by omega)).trans (hcell 0 _ rfl)
      have q1 : wr.cell? ⟨b, o + m * 3 + 1, none⟩ = some (.int .u8 sub) := (congrArg (fun z => wr.cell? ⟨b, z, none⟩) (by omega)).trans (hcell 1 _ rfl)
      have q2 : wr.cell? ⟨b, o + m * 3 + 2, none⟩ = some (.slice vA bl.length vc) := (congrArg (fun z => wr.cell? ⟨b, z, none⟩) (by omega)).trans (hcell 2 _ rfl)
      have HRB := Lib.hid hRB
      have HO := Lib.hid hO
      have HTK := Lib.hid htk
      have HJW := Lib.hid hjw
      have HCL := fun (w' : World) (hf : Fr wr w') => clone_any (.slice vA bl.length vc) bl w' (hRB.fr hf) hjl
      have hwz := hFw.size
      have hwz1 := hF.size
      have z1 : (0 : Int) ≤ (m : Int) := by omega
      have z2 : (m : Int) < (js.length : Int) := by omega
      have z3 : (0 : Int) ≤ (k : Int) := by omega
      have z4 : (k : Int) < (n : Int) := by omega
      clear hcell hj hm hRB hO htk hjw hxx hm1 hm2 hjx
      obtain ⟨i1, hi1, hiy0, hiy1, hiy2⟩ := info_parts infoItem
      go_wp2_with (first | (go_at_call 98; refine (HCL _ (by (repeat (with_reducible first | exact Fr.refl _ | assumption | refine Fr.alloc ?_ _ | refine Fr.drew ?_ | refine Fr.drewN ?_ _ | refine Fr.set ?_ (by first | (simp; done) | (simp; omega)) _ | refine Fr.trans ?_ (by assumption))))).mono ?_; rintro e w6 ⟨v6, rfl, hO6', hF6⟩; have hO6 : Hid (OB w6 w1.heap.size v6 bl) := Lib.hid (OB.mono hO6' (by simp; omega)); obtain ⟨A6, c6, hv6⟩ := OB.slice hO6.out; subst hv6; clear hO6'; have hz6 : wr.heap.size < w6.heap.size := (by have := hF6.size; simp at this; omega); have f6 : ∀ o, w6.frozen? ⟨wr.heap.size, o, none⟩ = false := (fun o => (hF6.froz _ _ (by simp)).trans (by simp)); have k60 : w6.cell? ⟨wr.heap.size, 0, none⟩ = some (.int .u16 ix) := (hF6.cells _ _ (by simp)).trans (by simp); have k61 : w6.cell? ⟨wr.heap.size, 1, none⟩ = some (.int .u8 sub) := (hF6.cells _ _ (by simp)).trans (by simp); have k62 : w6.cell? ⟨wr.heap.size, 2, none⟩ = some (.slice vA bl.length vc) := (hF6.cells _ _ (by simp)).trans (by simp)) | (at_builtin; refine wpList_append_lies _ (by rfl) (.tmp 22) (.tmp 24) _ (by rfl) w1.heap.size 50 i1 _ 3 32 Tryz.underlying23 hi1 hiy0 hiy1 hiy2 rfl (by omega) u3 js'.length (js'.map jcells).flatten (by rfl) (ownsRow_fr HO.out.row (by (repeat (with_reducible first | exact Fr.refl _ | assumption | refine Fr.alloc ?_ _ | refine Fr.drew ?_ | refine Fr.drewN ?_ _ | refine Fr.set ?_ (by first | (simp; done) | (simp; omega)) _ | refine Fr.trans ?_ (by assumption))))) ⟨w6.heap.size, 0, none⟩ 1 1 [.int .u16 ix, .int .u8 sub, .slice A6 bl.length c6] (by rfl) (by rfl) (World.news_of_block (cs := #[.int .u16 ix, .int .u8 sub, .slice A6 bl.length c6]) (t := 50) (fr := (0, 0)) (newsSet _ _ _ _)) (by simp [Value.oneCell']) (by omega) (by simp only [maxLen]; omega) (by omega) (by simp; omega) (w6.heap.size + 1) (by simp) ?_; intro g c8 w8 hown8 hgrow8 hat8 hlt8) | fail)
      go_roundw
      case rel =>
        have hBx : w6.heap[wr.heap.size]? = some (.cells #[.int .u16 ix, .int .u8 sub, .slice vA bl.length vc] 50 (0, 0)) := (hF6.block _ (by simp)).trans (heap_alloc_new wr _)
        have hOs := ownsRow_set hO6.out ⟨wr.heap.size, 2, none⟩ (.slice A6 bl.length c6) (fun hh => by
          obtain ⟨cur, hc⟩ := ownsRow_ty hO6.out hh
          rw [show w6.heap[(⟨wr.heap.size, 2, none⟩ : Addr).block]? = _ from hBx] at hc
          simp at hc)
        have hOW : OB ((w6.setCell ⟨wr.heap.size, 2, none⟩ (.slice A6 bl.length c6)).alloc (.cells #[.int .u16 ix, .int .u8 sub, .slice A6 bl.length c6] 50)) w1.heap.size (.slice A6 bl.length c6) bl := ownsRow_fr hOs ((Fr.refl _).alloc _)
        have hFW : Fr wr ((w6.setCell ⟨wr.heap.size, 2, none⟩ (.slice A6 bl.length c6)).alloc (.cells #[.int .u16 ix, .int .u8 sub, .slice A6 bl.length c6] 50)) := by (repeat (with_reducible first | exact Fr.refl _ | assumption | refine Fr.alloc ?_ _ | refine Fr.drew ?_ | refine Fr.drewN ?_ _ | refine Fr.set ?_ (by first | (simp; done) | (simp; omega)) _ | refine Fr.trans ?_ (by assumption)))
        have hOI := HO.out.fr hFW
        have hP := OI.push hOI (j := (⟨ix, sub, bl⟩, .slice A6 bl.length c6)) hOW HJW.out (Fr.refl _) hgrow8 hown8 (fun g' hg' => ownsRow_ne hOW hOI.row (by decide) hg') (hat8.imp id (fun h => by rw [h]; simp))
        rw [hl'] at hP
        refine ⟨k + 1, _, by omega, by go_num, Fr.grown (hF.trans hFW) hgrow8 (fun r hr => (HO.out.row.lt r hr).1), ?_, hP⟩
        · show jits (js' ++ _) = _
          rw [HTK.out, ← hT.out]
          simp [jits]
      case measure =>
        show n - ((k : Int) + 1).toNat < n - ((k : Int)).toNat
        omega
    · have hkl : k = n := by omega
      subst hkl
      have hnl : ¬ ((k : Nat) : Int) < (k : Nat) := by omega
      have HO := Lib.hid hO
      clear hO
      go_wp2
      go_ret
      refine ⟨u3, rfl, js', ?_, HO.out.mono hF1.size, hF1.trans hF⟩
      have := hT.out
      rw [this]
      exact List.take_of_length_le (by rw [← HN2.out]; exact Nat.le_refl _)

end Go.Proofs.YtmllpkpdfhniaaaGreat

namespace Go.Proofs.YtmllpkpdfhniaaaGreat
open Go.RowKit Go.Sort

theorem last_none (A : Option Addr) (c : Nat) (hc : c ≤ 9223372036854775807) (w : World) : Calls Tryz.prog 26 #[.slice A 0 c] w fun e w' => ∃ v, e = .returned v ∧ OI w' w.heap.size v [] ∧ Fr w w' := by
  have HLA := callsIn_wide.1 (lasts_walk A c [] w (by simp) ⟨rfl, _, _, rfl, Nat.zero_le _, hc, .inl rfl⟩ (by simp))
  go_enter Tryz.func26, Tryz.ntmps26
  go_wp2_with (go_at_call 97; refine HLA.mono ?_; rintro e w1 ⟨v1, rfl, hR1, hF1⟩; obtain ⟨h1l, A1, c1, hv1, h1n, h1c, h1x⟩ := hR1; rw [show (lastI 0 (jits ([] : List Jt))).length = 0 from rfl] at hv1; subst hv1)
  refine wp_loop_rounds 1 ?_
  rw [rounds_succ]
  go_wp2
  go_ret
  exact ⟨_, rfl, ⟨World.ownsRow_nil _ _ _ _, by simp, by simp, by simp⟩, hF1⟩

theorem last_any (js : List Jt) (v : Value) (w : World) (hR : RdI w v js) (hlen : js.length * 32 ≤ 140737488355328 - 32) (hbig : ∀ j ∈ js, j.1.b.length ≤ 140737488355328) :
    Calls Tryz.prog 26 #[v] w fun e w' => ∃ (v : Value) (js' : List Jt), e = .returned v ∧ jits js' = lastL (jits js) ∧ OI w' w.heap.size v js' ∧ Fr w w' := by
  obtain ⟨⟨hl, A, c, rfl, hcap, hmax, hx⟩, hbs, hwf⟩ := hR
  rcases hx with h0 | ⟨b, o, rfl, hb', hx⟩
  · have : js = [] := List.eq_nil_of_length_eq_zero h0
    subst this
    refine (last_none A c hmax w).mono ?_
    rintro e w' ⟨v, rfl, h1, h2⟩
    exact ⟨v, [], rfl, rfl, h1, h2⟩
  · exact last_walk b o c js w hlen hbig hcap hb' hmax hx hbs hwf

end Go.Proofs.YtmllpkpdfhniaaaGreat
