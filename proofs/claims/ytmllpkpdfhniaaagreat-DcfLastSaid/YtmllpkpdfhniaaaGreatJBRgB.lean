/- The document's dictionary (ref08): Check. -/
import Derived.Test.YtmllpkpdfhniaaaGreatJBRgA
import Derived.Test.YtmllpkpdfhniaaaGreatJAOdC
set_option linter.unusedVariables false
set_option linter.unusedSimpArgs false
namespace Go.Proofs.YtmllpkpdfhniaaaGreat
open Go.RowKit

theorem rdc_long (A : Option Addr) (n c : Nat) (hn : (1024 : Int) < n) (w : World) : Calls Tryz.prog 142 #[.slice A n c] w fun e w' => e = .returned (.int .i64 2) ∧ Fr w w' := by
  go_enter Tryz.func142, Tryz.ntmps142
  go_wp2
  go_ret
  exact ⟨rfl, by (repeat (with_reducible first | exact Fr.refl _ | assumption | refine Fr.alloc ?_ _ | refine Fr.drew ?_ | refine Fr.drewN ?_ _ | refine Fr.set ?_ (by first | (simp; done) | (simp; omega)) _ | refine Fr.trans ?_ (by assumption)))⟩
theorem rdc_nil (A : Option Addr) (c : Nat) (w : World) : Calls Tryz.prog 142 #[.slice A 0 c] w fun e w' => e = .returned (.int .i64 0) ∧ Fr w w' := by
  go_enter Tryz.func142, Tryz.ntmps142
  go_wp2
  refine wp_loop_rounds 1 ?_
  rw [rounds_succ]
  go_wp2
  go_ret
  exact ⟨rfl, by (repeat (with_reducible first | exact Fr.refl _ | assumption | refine Fr.alloc ?_ _ | refine Fr.drew ?_ | refine Fr.drewN ?_ _ | refine Fr.set ?_ (by first | (simp; done) | (simp; omega)) _ | refine Fr.trans ?_ (by assumption)))⟩

theorem not_in_take (l : List E) (k : Nat) (p : Int × Int) (h : ∀ j x, j < k → l[j]? = some x → (x.ix, x.sub) ≠ p) : p ∉ (l.take k).map fun e => (e.ix, e.sub) := fun hm => by
  obtain ⟨x, hx, hp⟩ := List.mem_map.1 hm
  obtain ⟨j, hj, rfl⟩ := List.getElem_of_mem hx
  rw [List.length_take] at hj
  exact h j _ (by omega) (by rw [List.getElem_take]; exact List.getElem?_eq_getElem _) hp
theorem in_take (l : List E) (k j : Nat) (p : Int × Int) (x : E) (hj : j < k) (hx : l[j]? = some x) (h : (x.ix, x.sub) = p) : p ∈ (l.take k).map fun e => (e.ix, e.sub) := by
  subst h
  exact List.mem_map_of_mem (f := fun e : E => (e.ix, e.sub)) (List.mem_of_getElem? (by rw [List.getElem?_take, if_pos hj]; exact hx))

set_option maxRecDepth 100000 in
set_option maxHeartbeats 2000000 in
theorem rdc_walk (l : List E) (hwf : ∀ e ∈ l, e.wf) (b o c : Nat) (hlc : l.length ≤ c) (hn : ¬ (1024 : Int) < l.length) (w : World) (hb : b < w.heap.size)
    (hx : ∀ j u, (l.map E.cells).flatten[j]? = some u → w.cell? ⟨b, o + j, none⟩ = some u) :
    Calls Tryz.prog 142 #[.slice (some ⟨b, o, none⟩) l.length c] w fun e w' => e = .returned (.int .i64 (firstE [] l)) ∧ Fr w w' := by
  have HX : Hid (∀ wr k j e u, Fr w wr → l[k]? = some e → e.cells[j]? = some u → wr.cell? ⟨b, o + (k * 14 + j), none⟩ = some u) :=
    Lib.hid fun wr k j e u hF he hu => (hF.cells b _ hb).trans (hx _ u ((flat_at E.cells 14 E.len l k j e he (List.getElem?_eq_some_iff.1 hu).1).trans hu))
  have HW := Lib.hid hwf
  clear hx hwf
  go_enter Tryz.func142, Tryz.ntmps142
  go_wp2
  go_loopw [3] (fun i wr => ∃ k : Nat, k ≤ l.length ∧ i = .int .i64 k ∧ Fr w wr ∧ Hid (firstE [] l = restE l k)) (fun i _ => l.length - (intOf i).toNat)
  case atStart => exact ⟨0, Nat.zero_le _, rfl, Fr.refl _, rfl⟩
  case round =>
    obtain ⟨k, hk, rfl, hF, hR⟩ := hrel
    by_cases hlt : k < l.length
    · obtain ⟨e, he⟩ : ∃ e, l[k]? = some e := ⟨l[k], List.getElem?_eq_getElem hlt⟩
      have hcell := fun j u => HX.out wr k j e u hF he
      have hEW := HW.out e (List.mem_of_getElem? he)
      have HE := rentry_any e hEW
      have hnx : restE l k = if entE e ≠ 0 then entE e else if (e.ix, e.sub) ∈ (l.take k).map (fun e => (e.ix, e.sub)) then 5 else restE l (k + 1) := restE_next l HW.out k e he
      clear hEW he
      obtain ⟨ix, sub, acc, mp, lim, ⟨t1, n1, b1⟩, ⟨t2, n2, b2⟩, ⟨t3, n3, b3⟩⟩ := e
      have hwr := hF.size
      have hblt : b < wr.heap.size := by omega
      unfold E.agg at HE
      dsimp only at HE hnx
      generalize hen : entE ⟨ix, sub, acc, mp, lim, ⟨t1, n1, b1⟩, ⟨t2, n2, b2⟩, ⟨t3, n3, b3⟩⟩ = en at *
      have hk0 : wr.cell? ⟨b, o + k * 14, none⟩ = some (.int .u16 ix) := (congrArg (fun z => wr.cell? ⟨b, z, none⟩) (by omega)).trans (hcell 0 _ rfl)
      have hk1 : wr.cell? ⟨b, o + k * 14 + 1, none⟩ = some (.int .u8 sub) := (congrArg (fun z => wr.cell? ⟨b, z, none⟩) (by omega)).trans (hcell 1 _ rfl)
      have hk2 : wr.cell? ⟨b, o + k * 14 + 2, none⟩ = some (.int .i64 acc) := (congrArg (fun z => wr.cell? ⟨b, z, none⟩) (by omega)).trans (hcell 2 _ rfl)
      have hk3 : wr.cell? ⟨b, o + k * 14 + 3, none⟩ = some (.bool mp) := (congrArg (fun z => wr.cell? ⟨b, z, none⟩) (by omega)).trans (hcell 3 _ rfl)
      have hk4 : wr.cell? ⟨b, o + k * 14 + 4, none⟩ = some (.bool lim) := (congrArg (fun z => wr.cell? ⟨b, z, none⟩) (by omega)).trans (hcell 4 _ rfl)
      have hk5 : wr.cell? ⟨b, o + k * 14 + 5, none⟩ = some (.int .i64 t1) := (congrArg (fun z => wr.cell? ⟨b, z, none⟩) (by omega)).trans (hcell 5 _ rfl)
      have hk6 : wr.cell? ⟨b, o + k * 14 + 6, none⟩ = some (.int .u64 n1) := (congrArg (fun z => wr.cell? ⟨b, z, none⟩) (by omega)).trans (hcell 6 _ rfl)
      have hk7 : wr.cell? ⟨b, o + k * 14 + 7, none⟩ = some (.string b1) := (congrArg (fun z => wr.cell? ⟨b, z, none⟩) (by omega)).trans (hcell 7 _ rfl)
      have hk8 : wr.cell? ⟨b, o + k * 14 + 8, none⟩ = some (.int .i64 t2) := (congrArg (fun z => wr.cell? ⟨b, z, none⟩) (by omega)).trans (hcell 8 _ rfl)
      have hk9 : wr.cell? ⟨b, o + k * 14 + 9, none⟩ = some (.int .u64 n2) := (congrArg (fun z => wr.cell? ⟨b, z, none⟩) (by omega)).trans (hcell 9 _ rfl)
      have hk10 : wr.cell? ⟨b, o + k * 14 + 10, none⟩ = some (.string b2) := (congrArg (fun z => wr.cell? ⟨b, z, none⟩) (by omega)).trans (hcell 10 _ rfl)
      have hk11 : wr.cell? ⟨b, o + k * 14 + 11, none⟩ = some (.int .i64 t3) := (congrArg (fun z => wr.cell? ⟨b, z, none⟩) (by omega)).trans (hcell 11 _ rfl)
      have hk12 : wr.cell? ⟨b, o + k * 14 + 12, none⟩ = some (.int .u64 n3) := (congrArg (fun z => wr.cell? ⟨b, z, none⟩) (by omega)).trans (hcell 12 _ rfl)
      have hk13 : wr.cell? ⟨b, o + k * 14 + 13, none⟩ = some (.string b3) := (congrArg (fun z => wr.cell? ⟨b, z, none⟩) (by omega)).trans (hcell 13 _ rfl)
      clear hcell hen
      have HNX := Lib.hid hnx
      clear hnx
      obtain ⟨wo, rfl⟩ : ∃ wo : World, wo = wr := ⟨_, rfl⟩
      by_cases h0 : en = 0
      · have h0' := bne_false h0
        go_wp2_with (first | (go_at_call 191; refine (HE _).mono ?_; rintro e w1 ⟨rfl, hF1⟩; have hz1 := hF1.size; (try simp at hz1); (try (have hz1_0 : b < w1.heap.size := (by omega))); have hc1 := hF1.cells; have hf1 := hF1.froz) | fail)
        have HH0 := Lib.hid h0
        clear h0
        have hq0 : w1.cell? ⟨b, o + k * 14, none⟩ = some (.int .u16 ix) := hF1.cell hk0
        have hq1 : w1.cell? ⟨b, o + k * 14 + 1, none⟩ = some (.int .u8 sub) := hF1.cell hk1
        clear hk0 hk1 hk2 hk3 hk4 hk5 hk6 hk7 hk8 hk9 hk10 hk11 hk12 hk13 hc1 hf1
        go_loopw [5] (fun i wr => ∃ m : Nat, m ≤ k ∧ i = .int .i64 m ∧ Fr w1 wr ∧ Hid (∀ j x, j < m → l[j]? = some x → (x.ix, x.sub) ≠ (ix, sub))) (fun i _ => k - (intOf i).toNat)
        case atStart => exact ⟨0, Nat.zero_le _, rfl, Fr.refl _, Lib.hid fun j x h => absurd h (Nat.not_lt_zero _)⟩
        case round =>
          obtain ⟨m, hm, rfl, hFm, hz⟩ := hrel
          by_cases hmk : m < k
          · obtain ⟨e2, he2⟩ : ∃ e2, l[m]? = some e2 := ⟨l[m], List.getElem?_eq_getElem (by omega)⟩
            have hcell2 := fun j u => HX.out wr m j e2 u ((hF.trans hF1).trans hFm) he2
            have HE2 := Lib.hid he2
            clear he2
            obtain ⟨ix2, sub2, acc2, mp2, lim2, v21, v22, v23⟩ := e2
            have p0 : wr.cell? ⟨b, o + m * 14, none⟩ = some (.int .u16 ix2) := (congrArg (fun z => wr.cell? ⟨b, z, none⟩) (by omega)).trans (hcell2 0 _ rfl)
            have p1 : wr.cell? ⟨b, o + m * 14 + 1, none⟩ = some (.int .u8 sub2) := (congrArg (fun z => wr.cell? ⟨b, z, none⟩) (by omega)).trans (hcell2 1 _ rfl)
            have p2 : wr.cell? ⟨b, o + k * 14, none⟩ = some (.int .u16 ix) := hFm.cell hq0
            have p3 : wr.cell? ⟨b, o + k * 14 + 1, none⟩ = some (.int .u8 sub) := hFm.cell hq1
            clear hcell2
            have g1 : (0 : Int) ≤ (m : Int) := by omega
            have g2 : (m : Int) < (l.length : Int) := by omega
            have g3 : (0 : Int) ≤ (k : Int) := by omega
            have g4 : (k : Int) < (l.length : Int) := by omega
            by_cases c1 : ix2 = ix
            · by_cases c2 : sub2 = sub
              · have d1 := beq_true c1
                have d2 := beq_true c2
                have HC : Hid ((ix2, sub2) = (ix, sub)) := Lib.hid (by rw [c1, c2])
                clear c1 c2
                go_wp2
                go_quiet (fail)
                go_wp2
                go_ret
                refine ⟨ret_int ?_, by (repeat (with_reducible first | exact Fr.refl _ | assumption | refine Fr.alloc ?_ _ | refine Fr.drew ?_ | refine Fr.drewN ?_ _ | refine Fr.set ?_ (by first | (simp; done) | (simp; omega)) _ | refine Fr.trans ?_ (by assumption)))⟩
                rw [hR.out, HNX.out, if_neg (by simpa using HH0.out), if_pos (in_take l k m _ _ hmk HE2.out HC.out)]
              · have d1 := beq_true c1
                have d2 := beq_false c2
                have HC : Hid ((ix2, sub2) ≠ (ix, sub)) := Lib.hid (fun h => c2 (congrArg Prod.snd h))
                clear c1 c2
                go_wp2
                go_quiet (fail)
                go_wp2
                go_roundw
                case rel =>
                  refine ⟨m + 1, by omega, by go_num, by (repeat (with_reducible first | exact Fr.refl _ | assumption | refine Fr.alloc ?_ _ | refine Fr.drew ?_ | refine Fr.drewN ?_ _ | refine Fr.set ?_ (by first | (simp; done) | (simp; omega)) _ | refine Fr.trans ?_ (by assumption))), Lib.hid fun j x hj hx => ?_⟩
                  by_cases hjm : j = m
                  · subst hjm
                    have := HE2.out
                    rw [this] at hx
                    cases hx
                    exact HC.out
                  · exact hz.out j x (by omega) hx
                case measure =>
                  show k - ((m : Int) + 1).toNat < k - ((m : Int)).toNat
                  omega
            · have d1 := beq_false c1
              have HC : Hid ((ix2, sub2) ≠ (ix, sub)) := Lib.hid (fun h => c1 (congrArg Prod.fst h))
              clear c1
              go_wp2
              go_quiet (fail)
              go_wp2
              go_roundw
              case rel =>
                refine ⟨m + 1, by omega, by go_num, by (repeat (with_reducible first | exact Fr.refl _ | assumption | refine Fr.alloc ?_ _ | refine Fr.drew ?_ | refine Fr.drewN ?_ _ | refine Fr.set ?_ (by first | (simp; done) | (simp; omega)) _ | refine Fr.trans ?_ (by assumption))), Lib.hid fun j x hj hx => ?_⟩
                by_cases hjm : j = m
                · subst hjm
                  have := HE2.out
                  rw [this] at hx
                  cases hx
                  exact HC.out
                · exact hz.out j x (by omega) hx
              case measure =>
                show k - ((m : Int) + 1).toNat < k - ((m : Int)).toNat
                omega
          · have hmk2 : m = k := by omega
            subst hmk2
            have hnl : ¬ ((m : Nat) : Int) < (m : Nat) := by omega
            go_wp2
            go_roundw
            case rel =>
              refine ⟨m + 1, by omega, by go_num, (hF.trans hF1).trans hFm, Lib.hid ?_⟩
              rw [hR.out, HNX.out, if_neg (by simpa using HH0.out), if_neg (not_in_take l m _ hz.out)]
            case measure =>
              show l.length - ((m : Int) + 1).toNat < l.length - ((m : Int)).toNat
              omega
      · have h0' := bne_true h0
        go_wp2_with (first | (go_at_call 191; refine (HE _).mono ?_; rintro e w1 ⟨rfl, hF1⟩; have hz1 := hF1.size; (try simp at hz1); (try (have hz1_0 : b < w1.heap.size := (by omega))); have hc1 := hF1.cells; have hf1 := hF1.froz) | fail)
        go_ret
        refine ⟨ret_int ?_, by (repeat (with_reducible first | exact Fr.refl _ | assumption | refine Fr.alloc ?_ _ | refine Fr.drew ?_ | refine Fr.drewN ?_ _ | refine Fr.set ?_ (by first | (simp; done) | (simp; omega)) _ | refine Fr.trans ?_ (by assumption)))⟩
        rw [hR.out, HNX.out, if_pos h0]
    · have hkl : k = l.length := by omega
      subst hkl
      have hnl : ¬ ((l.length : Nat) : Int) < (l.length : Nat) := by omega
      go_wp2
      go_ret
      exact ⟨ret_int (hR.out.trans (show restE l l.length = 0 by simp [restE, firstE])).symm, hF⟩

/-- ref08's Check. -/
theorem rdCheck_any (l : List E) (hwf : ∀ e ∈ l, e.wf) (v : Value) (w : World) (h : RdE w v l) : Calls Tryz.prog 142 #[v] w fun e w' => e = .returned (.int .i64 (chkL l)) ∧ Fr w w' := by
  obtain ⟨hl, A, c, rfl, hn, hc, hx⟩ := h
  unfold chkL
  by_cases h1 : 1024 < l.length
  · rw [if_pos h1]
    exact rdc_long A _ c (by omega) w
  · rw [if_neg h1]
    rcases hx with hx | ⟨b, o, rfl, hb, hx⟩
    · have : l = [] := List.eq_nil_of_length_eq_zero hx
      subst this
      exact rdc_nil A c w
    · exact rdc_walk l hwf b o c hn (by omega) w hb hx

end Go.Proofs.YtmllpkpdfhniaaaGreat
