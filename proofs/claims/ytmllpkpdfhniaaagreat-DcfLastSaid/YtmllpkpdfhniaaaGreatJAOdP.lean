/- The program's od: Save. -/
import Derived.Test.YtmllpkpdfhniaaaGreatJABy
import Derived.Test.YtmllpkpdfhniaaaGreatJAIt
set_option linter.unusedVariables false
set_option linter.unusedSimpArgs false
namespace Go.Proofs.YtmllpkpdfhniaaaGreat
open Go.RowKit Go.Sort

def headB (e : E) (n : Nat) : List UInt8 := [by8 e.ix 0, by8 e.ix 1, by8 e.sub 0, by8 n 0, by8 n 1, by8 n 2, by8 n 3]
def itemB (x : Nat × E × V) : List UInt8 := if x.2.1.acc = 2 then headB x.2.1 (encA x.2.2).length ++ encA x.2.2 else []
def saveB (its : List (Nat × E × V)) : List UInt8 := (its.map itemB).flatten

theorem head_row (e : E) (n : Nat) (he : e.wf) : [Value.int .u8 (IntKind.u8.wrap e.ix), .int .u8 (IntKind.u8.wrap (e.ix / 256)), .int .u8 e.sub, .int .u8 (IntKind.u8.wrap (n : Int)), .int .u8 (IntKind.u8.wrap ((n : Int) / 256)), .int .u8 (IntKind.u8.wrap ((n : Int) / 65536)), .int .u8 (IntKind.u8.wrap ((n : Int) / 16777216))] = bcs (headB e n) := by
  obtain ⟨⟨h1, h2⟩, ⟨h3, h4⟩, _⟩ := he
  obtain ⟨ix, hix⟩ := Int.eq_ofNat_of_zero_le h1
  obtain ⟨sub, hsub⟩ := Int.eq_ofNat_of_zero_le h3
  simp only [bcs, headB, List.map_cons, List.map_nil, by8_nat, wrap8, hix, hsub]
  simp
  omega
theorem rd_head (w1 : World) (e : E) (n : Nat) (he : e.wf) : Rd ((w1.alloc (.cells #[Value.int .u8 (IntKind.u8.wrap e.ix), .int .u8 (IntKind.u8.wrap (e.ix / 256)), .int .u8 e.sub, .int .u8 (IntKind.u8.wrap (n : Int)), .int .u8 (IntKind.u8.wrap ((n : Int) / 256)), .int .u8 (IntKind.u8.wrap ((n : Int) / 65536)), .int .u8 (IntKind.u8.wrap ((n : Int) / 16777216))] 5)).drew) 1 (.slice (some ⟨w1.heap.size, 0, none⟩) 7 7) 7 (bcs (headB e n)) := by
  refine Rd.of_block (w := (w1.alloc _).drew) (heap_alloc_new w1 _) (Nat.le_refl _) (by omega) (by simp [bcs, headB]) ?_
  rw [← head_row e n he]
  exact List.prefix_refl _
theorem encA_len (v : V) : (encA v).length ≤ 65536 := by
  unfold encA
  by_cases hc : chkV v = 0
  · rw [if_pos hc]
    unfold encV
    by_cases hs : szOf v.t = 0
    · rw [if_pos hs]
      unfold chkV at hc
      rcases Nat.lt_or_ge 65536 v.b.size with hb | hb
      · exfalso
        split at hc
        · cases hc
        · rw [if_pos ⟨hs, by omega⟩] at hc; cases hc
      · simpa using hb
    · rw [if_neg hs, leB_len]
      rcases szOf_cases v.t with h | h | h | h | h <;> rw [h] <;> decide
  · rw [if_neg hc]; simp
theorem itemB_len (x : Nat × E × V) : (itemB x).length ≤ 65600 := by
  unfold itemB
  have := encA_len x.2.2
  split
  · simp [headB]; omega
  · simp
theorem saveB_len' : ∀ (its : List (Nat × E × V)), (saveB its).length ≤ its.length * 65600
  | [] => by simp [saveB]
  | x :: its => by
    have h1 := itemB_len x
    have h2 := saveB_len' its
    have : saveB (x :: its) = itemB x ++ saveB its := rfl
    rw [this, List.length_append, List.length_cons]
    omega
theorem saveB_len {its : List (Nat × E × V)} (h : PS its) (k : Nat) : (saveB (its.take k)).length ≤ k * 65600 := by
  have h1 := saveB_len' (its.take k)
  have h2 : (its.take k).length ≤ k := by simp; omega
  exact Nat.le_trans h1 (Nat.mul_le_mul_right 65600 h2)

set_option maxRecDepth 100000 in
set_option maxHeartbeats 2000000 in
theorem save_walk {w : World} {db lo hi : Nat} {its : List (Nat × E × V)} (g cap : Nat) (h : PD w db lo hi (.slice (some ⟨g, 0, none⟩) its.length cap) its) (hS : PS its) (hlen : its.length ≤ 1024) (hcap : its.length ≤ cap)
    (hc : ∀ j x, its[j]? = some x → w.cell? ⟨g, j, none⟩ = some (.pointer (some ⟨x.1, 0, none⟩))) :
    Calls Tryz.prog 27 #[.pointer (some ⟨db, 0, none⟩)] w fun e w' => ∃ v, e = .returned v ∧ RdB w' v (saveB its) ∧ Fr w w' := by
  have mx := mixed
  have hd := h.cell
  have hbnd : ∀ k, (saveB (its.take k)).length ≤ k * 65600 := saveB_len hS
  have HC := Lib.hid hc
  have HH := Lib.hid h
  have HS := Lib.hid hS
  clear hc h hS
  go_enter Tryz.func27, Tryz.ntmps27
  go_wp2
  go_loopw [3, 14] (fun v3 i wr => ∃ k : Nat, k ≤ its.length ∧ i = .int .i64 k ∧ Fr w wr ∧ OB wr w.heap.size v3 (saveB (its.take k))) (fun _ i _ => its.length - (intOf i).toNat)
  case atStart => exact ⟨0, Nat.zero_le _, rfl, Fr.refl _, OB.nil _ _⟩
  case round =>
    obtain ⟨k, hk, rfl, hF, hO⟩ := hrel
    by_cases hlt : k < its.length
    · obtain ⟨x, hx⟩ : ∃ x, its[k]? = some x := ⟨its[k], List.getElem?_eq_getElem hlt⟩
      have hm := List.mem_of_getElem? hx
      have hsv : saveB (its.take (k + 1)) = saveB (its.take k) ++ itemB x := by unfold saveB; rw [List.take_add_one, hx]; simp
      have hcl := hF.cell (HC.out k x hx)
      have hI := (HH.out.items x hm).fr hF
      have hlx := hI.lt
      have hwf := HS.out.wf x hm
      have hell := encA_len x.2.2
      have HE := encode_new x.2.2 (HS.out.vwf x hm)
      have k0 := hI.fact 0 (.int .u16 x.2.1.ix) rfl
      have k1 := hI.fact 1 (.int .u8 x.2.1.sub) rfl
      have k2 := hI.fact 2 (.int .i64 x.2.1.acc) rfl
      have k14 := hI.fact 14 (.int .i64 x.2.2.t) rfl
      have k15 := hI.fact 15 (.int .u64 x.2.2.n) rfl
      have k16 := hI.fact 16 (.string x.2.2.b) rfl
      have hxlt : Hid (¬ w.heap.size ≤ x.1) := Lib.hid (by have := (HH.out.items x hm).lt; omega)
      have HSV := Lib.hid hsv
      have HO := Lib.hid hO
      have HW := Lib.hid hwf
      clear hx hm hI hsv hO hwf
      unfold itemB at HSV
      unfold encA at HSV hell
      obtain ⟨xb, e, ⟨t, n, bb⟩⟩ := x
      dsimp only at *
      unfold V.agg at HE
      dsimp only at HE
      generalize (if chkV ⟨t, n, bb⟩ = 0 then encV ⟨t, n, bb⟩ else []) = el at *
      generalize chkV ⟨t, n, bb⟩ = ck at *
      by_cases ha : e.acc = 2
      · have ha' := bne_false ha
        go_wp2_with (go_at_call 99; refine (HE _).mono ?_; rintro e1 w1 ⟨v, rfl, hR, hF1, hN1⟩; obtain ⟨hl, A, c, rfl, hR1⟩ := hR; have HR1 := Lib.hid hR1; clear hR1)
        have hRB : RdB w1 (.slice A el.length c) el := ⟨hl, A, c, rfl, HR1.out⟩
        have hRB' := Lib.hid hRB
        have hN1' := Lib.hid hN1
        clear hRB hN1
        have j0 := hF1.cell k0
        have j1 := hF1.cell k1
        have hs1 := hF1.size
        have hsw := hF.size
        have hlx1 : xb < w1.heap.size := by omega
        have hO1 := HO.out.fr hF1
        have hxo : some xb ≠ u3.ownBlock := fun hh => hxlt.out (hO1.lt xb hh.symm).1
        have hol : ∀ g', u3.ownBlock = some g' → g' < wr.heap.size := fun g' hh => (HO.out.lt g' hh).2
        have hlen1 : (saveB (its.take k)).length ≤ k * 65600 := hbnd k
        obtain ⟨i0, hi0, hiz0, hiz1, hiz2⟩ := info_parts infoByte
        go_region_held3 (fun w' => w'.cell? ⟨xb, 0, none⟩ = some (.int .u16 e.ix) ∧ w'.cell? ⟨xb, 1, none⟩ = some (.int .u8 e.sub))
          (first | go_keep | (go_split_ands; refine ⟨?_, ?_⟩ <;> (rw [hgrow.cell_far _ (by simp; omega) hxo]; assumption)))
          ((refine step_append_rd _ (by rfl) _ _ _ (by rfl) w.heap.size 5 i0 (.int .u8 0) 1 1 Tryz.underlying36 hi0 hiz0 hiz1 hiz2 rfl (by omega) u3 _ _ (by rfl) (OB.fr hO1 (by (repeat (with_reducible first | exact Fr.refl _ | assumption | refine Fr.alloc ?_ _ | refine Fr.drew ?_ | refine Fr.drewN ?_ _ | refine Fr.set ?_ (by first | (simp; done) | (simp; omega)) _ | refine Fr.trans ?_ (by assumption))))) _ 7 (bcs (headB e el.length)) (by rfl) (rd_head w1 e el.length HW.out) (bcs_one _) (by simp only [maxLen]; omega) (by omega) (by simp; omega) ?_; intro v4 w4 hown4 hgrow))
        have hFA : Fr w1 ((w1.alloc (.cells (bcs (headB e el.length)).toArray 5)).drew) := by (repeat (with_reducible first | exact Fr.refl _ | assumption | refine Fr.alloc ?_ _ | refine Fr.drew ?_ | refine Fr.drewN ?_ _ | refine Fr.set ?_ (by first | (simp; done) | (simp; omega)) _ | refine Fr.trans ?_ (by assumption)))
        rw [head_row e el.length HW.out] at hgrow
        have hRd4 : RdB w4 (.slice A el.length c) el := Rd.grown (hRB'.out.fr hFA) hgrow (fun g' hg' hh => by have h1 := hN1'.out g' hg'; have h2 := hol g' hh.symm; omega)
        have hFw4 : Fr w w4 := Fr.grown ((hF.trans hF1).trans hFA) hgrow (fun r hr => (hO1.lt r hr).1)
        have hz4 : w.heap.size ≤ w4.heap.size := hFw4.size
        have hlb : (bcs (headB e el.length)).length = 7 := by simp [bcs, headB]
        have hel : el.length ≤ 65536 := hell
        go_wp2_with (at_builtin; refine wpList_append_rd _ (by rfl) _ _ _ (by rfl) w.heap.size 5 i0 (.int .u8 0) 1 1 Tryz.underlying36 hi0 hiz0 hiz1 hiz2 rfl (by omega) v4 _ _ (by rfl) hown4 _ el.length (bcs el) (by rfl) hRd4 (bcs_one _) (by simp only [maxLen]; omega) (by omega) hz4 ?_; intro v5 w5 hown5 hgrow5)
        go_roundw
        case rel =>
          have e0 : saveB (its.take (k + 1)) = saveB (its.take k) ++ (headB e el.length ++ el) := by rw [HSV.out, if_pos ha]
          have e1 : (saveB (its.take (k + 1))).length = (saveB (its.take k)).length + 7 + el.length := by
            rw [e0, List.length_append, List.length_append]
            simp only [headB, List.length_cons, List.length_nil]
            omega
          have e2 : bcs (saveB (its.take (k + 1))) = bcs (saveB (its.take k)) ++ bcs (headB e el.length) ++ bcs el := by rw [e0, bcs_app, bcs_app, List.append_assoc]
          refine ⟨k + 1, by omega, by go_num, Fr.grown hFw4 hgrow5 (fun r hr => (hown4.lt r hr).1), ?_⟩
          unfold OB
          rw [e1, e2]
          exact hown5
        case measure =>
          show its.length - ((k : Int) + 1).toNat < its.length - ((k : Int)).toNat
          omega
      · have ha' := bne_true ha
        go_wp2
        go_roundw
        case rel =>
          have e0 : saveB (its.take (k + 1)) = saveB (its.take k) := by rw [HSV.out, if_neg ha, List.append_nil]
          exact ⟨k + 1, by omega, by go_num, hF, by rw [e0]; exact HO.out⟩
        case measure =>
          show its.length - ((k : Int) + 1).toNat < its.length - ((k : Int)).toNat
          omega
    · have hkl : k = its.length := by omega
      subst hkl
      have hnl : ¬ ((its.length : Nat) : Int) < (its.length : Nat) := by omega
      have HO := Lib.hid hO
      clear hO
      go_wp2
      go_ret
      refine ⟨_, rfl, ?_, hF⟩
      have := HO.out.rd
      rwa [List.take_length] at this

theorem save_nil (db : Nat) (A : Option Addr) (c : Nat) (w : World) (hd : w.cell? ⟨db, 0, none⟩ = some (.slice A 0 c)) : Calls Tryz.prog 27 #[.pointer (some ⟨db, 0, none⟩)] w fun e w' => e = .returned (.slice none 0 0) ∧ Fr w w' := by
  go_enter Tryz.func27, Tryz.ntmps27
  go_wp2
  refine wp_loop_rounds 1 ?_
  rw [rounds_succ]
  go_wp2
  go_ret
  exact ⟨rfl, by (repeat (with_reducible first | exact Fr.refl _ | assumption | refine Fr.alloc ?_ _ | refine Fr.drew ?_ | refine Fr.drewN ?_ _ | refine Fr.set ?_ (by first | (simp; done) | (simp; omega)) _ | refine Fr.trans ?_ (by assumption)))⟩

/-- od's Save. -/
theorem save_any {w : World} {db lo hi : Nat} {vl : Value} {its : List (Nat × E × V)} (h : PD w db lo hi vl its) (hS : PS its) :
    Calls Tryz.prog 27 #[.pointer (some ⟨db, 0, none⟩)] w fun e w' => ∃ v, e = .returned v ∧ RdB w' v (saveB its) ∧ Fr w w' := by
  by_cases hne : its = []
  · subst hne
    obtain ⟨A, cap, rfl⟩ := h.slice0
    exact (save_nil db A cap w h.cell).mono fun e w' hh => ⟨_, hh.1, RdB.nil _, hh.2⟩
  · obtain ⟨g, cap, rfl, hg, hcap, hcl⟩ := h.slice hne
    exact save_walk g cap h hS hS.len hcap hcl

end Go.Proofs.YtmllpkpdfhniaaaGreat
