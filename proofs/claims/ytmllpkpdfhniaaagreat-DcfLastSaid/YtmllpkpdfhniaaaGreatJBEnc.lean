/- dcf.Encode: items as bytes. -/
import Derived.Test.YtmllpkpdfhniaaaGreatJAOwn
import Derived.Test.YtmllpkpdfhniaaaGreatJBLaD
import Derived.Test.YtmllpkpdfhniaaaGreatJBRegW
set_option linter.unusedVariables false
set_option linter.unusedSimpArgs false
namespace Go.Proofs.YtmllpkpdfhniaaaGreat
open Go.RowKit Go.Sort

def low4 (n : Int) : List UInt8 := [by8 n 0, by8 n 1, by8 n 2, by8 n 3]
def encIt (x : It) : List UInt8 := [by8 x.ix 0, by8 x.ix 1, by8 x.sub 0] ++ low4 x.b.length ++ x.b
def encL (l : List It) : List UInt8 := (l.map encIt).flatten
def bigI (x : It) : Bool := decide (65536 < x.b.length)
def encErr (l : List It) : Int := if 1024 < l.length ∨ l.any bigI = true then 2 else 0
theorem encL_len : ∀ (l : List It), (∀ x ∈ l, x.b.length ≤ 65536) → (encL l).length ≤ l.length * 65543
  | [], _ => by simp [encL]
  | x :: l, h => by
    have h1 := encL_len l fun y hy => h y (List.mem_cons_of_mem _ hy)
    have h2 := h x List.mem_cons_self
    have h3 : encL (x :: l) = encIt x ++ encL l := rfl
    rw [h3, List.length_append, List.length_cons]
    have h4 : (encIt x).length = 7 + x.b.length := by simp [encIt, low4]; omega
    omega
theorem low_row (n : Int) (h : 0 ≤ n) : [Value.int .u8 (IntKind.u8.wrap n), .int .u8 (IntKind.u8.wrap (n / 256)), .int .u8 (IntKind.u8.wrap (n / 65536)), .int .u8 (IntKind.u8.wrap (n / 16777216))] = bcs (low4 n) := by
  obtain ⟨m, rfl⟩ := Int.eq_ofNat_of_zero_le h
  simp only [bcs, low4, List.map_cons, List.map_nil, by8_nat, wrap8]
  simp
/-- dcf.low32. -/
theorem low32_any (n : Int) (h : 0 ≤ n) (hn : n ≤ 9223372036854775807) (w : World) : Calls Tryz.prog 147 #[.int .i64 n] w fun e w' => ∃ v, e = .returned v ∧ OB w' w.heap.size v (low4 n) ∧ Fr w w' := by
  have HR := Lib.hid (low_row n h)
  go_enter Tryz.func147, Tryz.ntmps147
  go_wp2
  go_ret
  refine ⟨_, rfl, ?_, by (repeat (with_reducible first | exact Fr.refl _ | assumption | refine Fr.alloc ?_ _ | refine Fr.drew ?_ | refine Fr.drewN ?_ _ | refine Fr.set ?_ (by first | (simp; done) | (simp; omega)) _ | refine Fr.trans ?_ (by assumption)))⟩
  unfold OB
  rw [← HR.out]
  exact ⟨rfl, .inr ⟨w.heap.size, 4, _, rfl, Nat.le_refl _, heap_alloc_new _ _, Nat.le_refl _, by simp [maxLen], rfl, rfl⟩⟩

theorem encfn_any (ix sub : Int) (A : Option Addr) (n c : Nat) (w : World) : Calls Tryz.prog 146 #[.agg #[.int .u16 ix, .int .u8 sub, .slice A n c]] w fun e w' => e = .returned (.bool (decide (65536 < n))) ∧ Fr w w' := by
  by_cases h : 65536 < n
  · have h2 : (65536 : Int) < (n : Int) := by omega
    have e : decide (65536 < n) = true := by simpa using h
    rw [e]
    clear h
    go_enter Tryz.func146, Tryz.ntmps146
    go_wp2
    go_ret
    exact ⟨rfl, by (repeat (with_reducible first | exact Fr.refl _ | assumption | refine Fr.alloc ?_ _ | refine Fr.drew ?_ | refine Fr.drewN ?_ _ | refine Fr.set ?_ (by first | (simp; done) | (simp; omega)) _ | refine Fr.trans ?_ (by assumption)))⟩
  · have h2 : ¬ (65536 : Int) < (n : Int) := by omega
    have h3 : decide ((65536 : Int) < (n : Int)) = false := by simpa using h2
    have e : decide (65536 < n) = false := by simpa using h
    rw [e]
    clear h
    go_enter Tryz.func146, Tryz.ntmps146
    go_wp2
    go_ret
    exact ⟨rfl, by (repeat (with_reducible first | exact Fr.refl _ | assumption | refine Fr.alloc ?_ _ | refine Fr.drew ?_ | refine Fr.drewN ?_ _ | refine Fr.set ?_ (by first | (simp; done) | (simp; omega)) _ | refine Fr.trans ?_ (by assumption)))⟩

theorem ixI_nil (A : Option Addr) (c : Nat) (f : Value) (w : World) : Calls Tryz.prog 192 #[.slice A 0 c, f] w fun e w' => e = .returned (.int .i64 (-1)) ∧ Fr w w' := by
  go_enter Tryz.func192, Tryz.ntmps192
  go_wp2
  refine wp_loop_rounds 1 ?_
  rw [rounds_succ]
  go_wp2
  go_ret
  exact ⟨rfl, by (repeat (with_reducible first | exact Fr.refl _ | assumption | refine Fr.alloc ?_ _ | refine Fr.drew ?_ | refine Fr.drewN ?_ _ | refine Fr.set ?_ (by first | (simp; done) | (simp; omega)) _ | refine Fr.trans ?_ (by assumption)))⟩
set_option maxHeartbeats 1000000 in
theorem ixI_walk (js : List Jt) (b o cap : Nat) (w : World) (hlen : js.length < 4611686018427387904) (hcap : js.length ≤ cap) (hb : b < w.heap.size)
    (hx : ∀ i u, (js.map jcells).flatten[i]? = some u → w.cell? ⟨b, o + i, none⟩ = some u) (hbv : ∀ j ∈ js, ∃ (A : Option Addr) (c : Nat), j.2 = .slice A j.1.b.length c) :
    Calls Tryz.prog 192 #[.slice (some ⟨b, o, none⟩) js.length cap, .func (.func 146) #[] #[]] w fun e w' =>
      (∃ r : Int, e = .returned (.int .i64 r) ∧ ((0 ≤ r ∧ (jits js).any bigI = true) ∨ (r = -1 ∧ (jits js).any bigI = false))) ∧ Fr w w' := by
  have HX := Lib.hid hx
  have HB := Lib.hid hbv
  clear hx hbv
  go_enter Tryz.func192, Tryz.ntmps192
  go_wp2
  go_loopw [8] (fun i wr => ∃ k : Nat, k ≤ js.length ∧ i = .int .i64 k ∧ Fr w wr ∧ Hid (∀ t x, t < k → (jits js)[t]? = some x → bigI x = false)) (fun i _ => js.length - (intOf i).toNat)
  case atStart => exact ⟨0, Nat.zero_le _, rfl, Fr.refl _, Lib.hid fun t x h => absurd h (Nat.not_lt_zero _)⟩
  case round =>
    obtain ⟨k, hk, rfl, hF, H⟩ := hrel
    by_cases hlt : k < js.length
    · obtain ⟨j, hj⟩ : ∃ j, js[k]? = some j := ⟨js[k], List.getElem?_eq_getElem hlt⟩
      have hcell : ∀ i u, (jcells j)[i]? = some u → wr.cell? ⟨b, o + (k * 3 + i), none⟩ = some u := fun i u hu => (hF.cells b _ hb).trans (HX.out _ u ((flat_at jcells 3 jlen js k i j hj (List.getElem?_eq_some_iff.1 hu).1).trans hu))
      have hjt := jits_at hj
      obtain ⟨A, c, hjv⟩ := HB.out j (List.mem_of_getElem? hj)
      obtain ⟨⟨ix, sub, bl⟩, bv⟩ := j
      dsimp only at hjv
      subst hjv
      have q0 : wr.cell? ⟨b, o + k * 3, none⟩ = some (.int .u16 ix) := (congrArg (fun z => wr.cell? ⟨b, z, none⟩) (by omega)).trans (hcell 0 _ rfl)
      have q1 : wr.cell? ⟨b, o + k * 3 + 1, none⟩ = some (.int .u8 sub) := (congrArg (fun z => wr.cell? ⟨b, z, none⟩) (by omega)).trans (hcell 1 _ rfl)
      have q2 : wr.cell? ⟨b, o + k * 3 + 2, none⟩ = some (.slice A bl.length c) := (congrArg (fun z => wr.cell? ⟨b, z, none⟩) (by omega)).trans (hcell 2 _ rfl)
      have hcmp := encfn_any ix sub A bl.length c wr
      have HJ := Lib.hid hjt
      have hbig : Hid (bigI ⟨ix, sub, bl⟩ = decide (65536 < bl.length)) := Lib.hid rfl
      clear hcell hj hjt
      generalize decide (65536 < bl.length) = r at *
      cases r
      · go_wp2_with (go_at_call 146; refine hcmp.mono ?_; rintro e w' ⟨rfl, hF1⟩)
        go_roundw
        case rel =>
          exact ⟨k + 1, by omega, by go_num, hF.trans hF1, Lib.hid fun t y ht hy => (by
            by_cases htk : t = k
            · subst htk
              have : y = ⟨ix, sub, bl⟩ := Option.some.inj (hy.symm.trans HJ.out)
              subst this
              exact hbig.out
            · exact H.out t y (by omega) hy)⟩
        case measure =>
          show js.length - ((k : Int) + 1).toNat < js.length - ((k : Int)).toNat
          omega
      · go_wp2_with (go_at_call 146; refine hcmp.mono ?_; rintro e w' ⟨rfl, hF1⟩)
        go_ret
        exact ⟨⟨k, rfl, .inl ⟨by omega, List.any_eq_true.2 ⟨_, List.mem_of_getElem? HJ.out, hbig.out⟩⟩⟩, hF.trans hF1⟩
    · have hkl : k = js.length := by omega
      subst hkl
      have hnl : ¬ ((js.length : Nat) : Int) < (js.length : Nat) := by omega
      go_wp2
      go_ret
      refine ⟨⟨-1, rfl, .inr ⟨rfl, ?_⟩⟩, hF⟩
      have hall : ∀ x ∈ jits js, bigI x = false := fun x hx => by
        obtain ⟨t, ht, rfl⟩ := List.getElem_of_mem hx
        exact H.out t _ (by rwa [jits_len] at ht) (List.getElem?_eq_getElem ht)
      first | exact hall | (rw [List.any_eq_false]; intro x hx hh; rw [hall x hx] at hh; cases hh)
theorem containsI_any (js : List Jt) (v : Value) (w : World) (hR : RdI w v js) (hlen : js.length < 4611686018427387904) :
    Calls Tryz.prog 145 #[v, .func (.func 146) #[] #[]] w fun e w' => e = .returned (.bool ((jits js).any bigI)) ∧ Fr w w' := by
  have HI : Calls Tryz.prog 192 #[v, .func (.func 146) #[] #[]] w fun e w' =>
      (∃ r : Int, e = .returned (.int .i64 r) ∧ ((0 ≤ r ∧ (jits js).any bigI = true) ∨ (r = -1 ∧ (jits js).any bigI = false))) ∧ Fr w w' := by
    obtain ⟨⟨hl, A, c, rfl, hcap, hmax, hx⟩, hbs, hwf⟩ := hR
    rcases hx with h0 | ⟨b, o, rfl, hb, hx⟩
    · have : js = [] := List.eq_nil_of_length_eq_zero h0
      subst this
      exact (ixI_nil A c _ w).mono fun e w' h => ⟨⟨-1, h.1, .inr ⟨rfl, rfl⟩⟩, h.2⟩
    · exact ixI_walk js b o c w hlen hcap hb hx fun j hj => by
        obtain ⟨_, A', c', hv, _⟩ := hbs j hj
        exact ⟨A', c', hv⟩
  obtain ⟨⟨hl, A, c, rfl, hcap, hmax, hx⟩, hbs, hwf⟩ := hR
  clear hx hbs hwf hl
  generalize (jits js).any bigI = bb at *
  go_enter Tryz.func145, Tryz.ntmps145
  go_wp2_with (go_at_call 192; refine HI.mono ?_; rintro e w1 ⟨⟨r, rfl, ⟨hr, rfl⟩ | ⟨rfl, rfl⟩⟩, hF1⟩)
  all_goals
    go_ret
    exact ⟨rfl, by (repeat (with_reducible first | exact Fr.refl _ | assumption | refine Fr.alloc ?_ _ | refine Fr.drew ?_ | refine Fr.drewN ?_ _ | refine Fr.set ?_ (by first | (simp; done) | (simp; omega)) _ | refine Fr.trans ?_ (by assumption)))⟩

end Go.Proofs.YtmllpkpdfhniaaaGreat
