/- Items that are read; what stays where a dictionary is written. The program's dcf.Check, Apply. -/
import Derived.Test.YtmllpkpdfhniaaaGreatJAOdN
set_option linter.unusedVariables false
set_option linter.unusedSimpArgs false
namespace Go.Proofs.YtmllpkpdfhniaaaGreat
open Go.RowKit Go.Sort

/-- An item: where, and what bytes. -/
structure It where
  ix : Int
  sub : Int
  b : List UInt8
deriving DecidableEq
def It.wf (x : It) : Prop := (0 ≤ x.ix ∧ x.ix ≤ 65535) ∧ (0 ≤ x.sub ∧ x.sub ≤ 255)
def It.pl (x : It) : Int := x.ix * 256 + x.sub
/-- An item and the slice in which its bytes lie. -/
abbrev Jt := It × Value
def jcells (j : Jt) : List Value := [.int .u16 j.1.ix, .int .u8 j.1.sub, j.2]
theorem jlen (j : Jt) : (jcells j).length = 3 := rfl
structure RdI (w : World) (v : Value) (js : List Jt) : Prop where
  row : Rd w 3 v js.length (js.map jcells).flatten
  bs : ∀ j ∈ js, RdB w j.2 j.1.b
  wf : ∀ j ∈ js, j.1.wf
theorem RdI.fr {w w' : World} {v : Value} {js : List Jt} (h : RdI w v js) (hf : Fr w w') : RdI w' v js := ⟨h.row.fr hf, fun j hj => (h.bs j hj).fr hf, h.wf⟩

def apart (lo hi : Nat) (v : Value) : Prop := ∀ g, v.ownBlock = some g → g < lo ∨ hi ≤ g
theorem Rd.chg {w w' : World} {sz n lo hi : Nat} {v : Value} {cs : List Value} (h : Rd w sz v n cs) (hc : Chg lo hi w w') (ha : apart lo hi v) : Rd w' sz v n cs := by
  obtain ⟨hl, A, c, rfl, hn, hcap, h⟩ := h
  refine ⟨hl, A, c, rfl, hn, hcap, h.imp id ?_⟩
  rintro ⟨b, o, rfl, hb, hh⟩
  exact ⟨b, o, rfl, Nat.lt_of_lt_of_le hb hc.size, fun j u hu => (World.cell?_of_block (hc.block b hb (ha b rfl))).trans (hh j u hu)⟩
def apartI (lo hi : Nat) (v : Value) (js : List Jt) : Prop := apart lo hi v ∧ ∀ j ∈ js, apart lo hi j.2
theorem RdI.chg {w w' : World} {lo hi : Nat} {v : Value} {js : List Jt} (h : RdI w v js) (hc : Chg lo hi w w') (ha : apartI lo hi v js) : RdI w' v js :=
  ⟨Rd.chg h.row hc ha.1, fun j hj => Rd.chg (h.bs j hj) hc (ha.2 j hj), h.wf⟩

/-- The dictionary's items when the first k were written. -/
def stK (its : List (Nat × E × V)) (l : List It) : Nat → List (Nat × E × V)
  | 0 => its
  | k + 1 => match l[k]? with | none => stK its l k | some x => wrI (stK its l k) x.ix x.sub x.b
theorem stK_PS {its : List (Nat × E × V)} (h : PS its) (l : List It) : ∀ k, PS (stK its l k)
  | 0 => h
  | k + 1 => by
    unfold stK
    split
    · exact stK_PS h l k
    · exact (stK_PS h l k).wr _ _ _
/-- What a loop over items with codes hands back. -/
def ResE (c : Nat → Int) (n k : Nat) (e : Ending) : Prop :=
  (k = n ∧ (∀ j, j < n → c j = 0) ∧ e = .returned (.tuple #[.int .i64 n, .int .u32 0])) ∨ (∃ m, m < n ∧ k = m + 1 ∧ (∀ j, j < m → c j = 0) ∧ c m ≠ 0 ∧ e = .returned (.tuple #[.int .i64 m, .int .u32 (c m)]))

theorem each_chk_nil (db : Nat) (A : Option Addr) (cap : Nat) (w : World) : Calls Tryz.prog 94 #[.pointer (some ⟨db, 0, none⟩), .slice A 0 cap, .func (.func 95) #[] #[]] w fun e w' => e = .returned (.tuple #[.int .i64 0, .int .u32 0]) ∧ Fr w w' := by
  go_enter Tryz.func94, Tryz.ntmps94
  go_wp2
  refine wp_loop_rounds 1 ?_
  rw [rounds_succ]
  go_wp2
  go_ret2
  exact ⟨rfl, by (repeat (with_reducible first | exact Fr.refl _ | assumption | refine Fr.alloc ?_ _ | refine Fr.drew ?_ | refine Fr.drewN ?_ _ | refine Fr.set ?_ (by first | (simp; done) | (simp; omega)) _ | refine Fr.trans ?_ (by assumption)))⟩

set_option maxHeartbeats 2000000 in
theorem each_chk_walk (db : Nat) (b o cap : Nat) (js : List Jt) (Inv : Nat → World → Prop) (c : Nat → Int) (w : World) (hlen : (js.length : Int) < 4611686018427387904) (hbv : ∀ j ∈ js, ∃ (A : Option Addr) (n c : Nat), j.2 = .slice A n c) (hcap : js.length ≤ cap)
    (h0 : Inv 0 w) (hfr : ∀ k w w', Inv k w → Fr w w' → Inv k w') (hrd : ∀ k w, Inv k w → (∀ i u, (js.map jcells).flatten[i]? = some u → w.cell? ⟨b, o + i, none⟩ = some u))
    (hstep : ∀ k j w, js[k]? = some j → Inv k w → Calls Tryz.prog 95 #[.pointer (some ⟨db, 0, none⟩), .int .u16 j.1.ix, .int .u8 j.1.sub, j.2] w fun e w' => e = .returned (.int .u32 (c k)) ∧ Inv (k + 1) w' ∧ w.heap.size ≤ w'.heap.size) :
    Calls Tryz.prog 94 #[.pointer (some ⟨db, 0, none⟩), .slice (some ⟨b, o, none⟩) js.length cap, .func (.func 95) #[] #[]] w fun e w' =>
      ∃ k, k ≤ js.length ∧ Inv k w' ∧ ResE c js.length k e := by
  have HBV := Lib.hid hbv
  have H0 := Lib.hid h0
  have HFR := Lib.hid hfr
  have HRD := Lib.hid hrd
  have HST := Lib.hid hstep
  clear h0 hfr hrd hstep hbv
  go_enter Tryz.func94, Tryz.ntmps94
  go_wp2
  go_loopw [15] (fun i wr => ∃ k : Nat, k ≤ js.length ∧ i = .int .i64 k ∧ Hid (Inv k wr) ∧ Hid (∀ j, j < k → c j = 0)) (fun i _ => js.length - (intOf i).toNat)
  case atStart => exact ⟨0, Nat.zero_le _, rfl, H0, Lib.hid fun j h => absurd h (Nat.not_lt_zero _)⟩
  case round =>
    obtain ⟨k, hk, rfl, hI, hz⟩ := hrel
    by_cases hlt : k < js.length
    · obtain ⟨j, hj⟩ : ∃ j, js[k]? = some j := ⟨js[k], List.getElem?_eq_getElem hlt⟩
      have hcell : ∀ i u, (jcells j)[i]? = some u → wr.cell? ⟨b, o + (k * 3 + i), none⟩ = some u := fun i u hu => HRD.out k wr hI.out _ u ((flat_at jcells 3 jlen js k i j hj (List.getElem?_eq_some_iff.1 hu).1).trans hu)
      have hc := fun w' (hf : Fr wr w') => HST.out k j w' hj (HFR.out k wr w' hI.out hf)
      obtain ⟨vA, vn, vc, hjv⟩ := HBV.out j (List.mem_of_getElem? hj)
      obtain ⟨⟨ix, sub, bl⟩, bv⟩ := j
      dsimp only at hjv
      subst hjv
      have q0 : wr.cell? ⟨b, o + k * 3, none⟩ = some (.int .u16 ix) := (congrArg (fun z => wr.cell? ⟨b, z, none⟩) (by omega)).trans (hcell 0 _ rfl)
      have q1 : wr.cell? ⟨b, o + k * 3 + 1, none⟩ = some (.int .u8 sub) := (congrArg (fun z => wr.cell? ⟨b, z, none⟩) (by omega)).trans (hcell 1 _ rfl)
      have q2 : wr.cell? ⟨b, o + k * 3 + 2, none⟩ = some (.slice vA vn vc) := (congrArg (fun z => wr.cell? ⟨b, z, none⟩) (by omega)).trans (hcell 2 _ rfl)
      clear hcell hj
      dsimp only at hc
      obtain ⟨ck, hck⟩ : ∃ ck, ck = c k := ⟨_, rfl⟩
      rw [← hck] at hc
      have HCK := Lib.hid hck
      clear hck
      by_cases h0 : ck = 0
      · have h0' := bne_false h0
        go_wp2_with (go_at_call 95; refine (hc _ (by (repeat (with_reducible first | exact Fr.refl _ | assumption | refine Fr.alloc ?_ _ | refine Fr.drew ?_ | refine Fr.drewN ?_ _ | refine Fr.set ?_ (by first | (simp; done) | (simp; omega)) _ | refine Fr.trans ?_ (by assumption))))).mono ?_; rintro e w1 ⟨rfl, hI1, hz1⟩; have HI1 := Lib.hid hI1; clear hI1)
        go_roundw
        case rel =>
          refine ⟨k + 1, by omega, by go_num, HI1, Lib.hid fun j hj => ?_⟩
          by_cases hjk : j = k
          · rw [hjk, ← HCK.out, h0]
          · exact hz.out j (by omega)
        case measure =>
          show js.length - ((k : Int) + 1).toNat < js.length - ((k : Int)).toNat
          omega
      · have h0' := bne_true h0
        go_wp2_with (go_at_call 95; refine (hc _ (by (repeat (with_reducible first | exact Fr.refl _ | assumption | refine Fr.alloc ?_ _ | refine Fr.drew ?_ | refine Fr.drewN ?_ _ | refine Fr.set ?_ (by first | (simp; done) | (simp; omega)) _ | refine Fr.trans ?_ (by assumption))))).mono ?_; rintro e w1 ⟨rfl, hI1, hz1⟩; have HI1 := Lib.hid hI1; clear hI1)
        go_ret2
        exact ⟨k + 1, by omega, HI1, .inr ⟨k, hlt, rfl, hz.out, by rw [← HCK.out]; exact h0, by rw [← HCK.out]; rfl⟩⟩
    · have hkl : k = js.length := by omega
      subst hkl
      have hnl : ¬ ((js.length : Nat) : Int) < (js.length : Nat) := by omega
      go_wp2
      go_ret2
      exact ⟨js.length, Nat.le_refl _, hI, .inl ⟨rfl, hz.out, rfl⟩⟩

theorem each_app_nil (db : Nat) (A : Option Addr) (cap : Nat) (w : World) : Calls Tryz.prog 94 #[.pointer (some ⟨db, 0, none⟩), .slice A 0 cap, .func (.func 96) #[] #[]] w fun e w' => e = .returned (.tuple #[.int .i64 0, .int .u32 0]) ∧ Fr w w' := by
  go_enter Tryz.func94, Tryz.ntmps94
  go_wp2
  refine wp_loop_rounds 1 ?_
  rw [rounds_succ]
  go_wp2
  go_ret2
  exact ⟨rfl, by (repeat (with_reducible first | exact Fr.refl _ | assumption | refine Fr.alloc ?_ _ | refine Fr.drew ?_ | refine Fr.drewN ?_ _ | refine Fr.set ?_ (by first | (simp; done) | (simp; omega)) _ | refine Fr.trans ?_ (by assumption)))⟩

set_option maxHeartbeats 2000000 in
theorem each_app_walk (db : Nat) (b o cap : Nat) (js : List Jt) (Inv : Nat → World → Prop) (c : Nat → Int) (w : World) (hlen : (js.length : Int) < 4611686018427387904) (hbv : ∀ j ∈ js, ∃ (A : Option Addr) (n c : Nat), j.2 = .slice A n c) (hcap : js.length ≤ cap)
    (h0 : Inv 0 w) (hfr : ∀ k w w', Inv k w → Fr w w' → Inv k w') (hrd : ∀ k w, Inv k w → (∀ i u, (js.map jcells).flatten[i]? = some u → w.cell? ⟨b, o + i, none⟩ = some u))
    (hstep : ∀ k j w, js[k]? = some j → Inv k w → Calls Tryz.prog 96 #[.pointer (some ⟨db, 0, none⟩), .int .u16 j.1.ix, .int .u8 j.1.sub, j.2] w fun e w' => e = .returned (.int .u32 (c k)) ∧ Inv (k + 1) w' ∧ w.heap.size ≤ w'.heap.size) :
    Calls Tryz.prog 94 #[.pointer (some ⟨db, 0, none⟩), .slice (some ⟨b, o, none⟩) js.length cap, .func (.func 96) #[] #[]] w fun e w' =>
      ∃ k, k ≤ js.length ∧ Inv k w' ∧ ResE c js.length k e := by
  have HBV := Lib.hid hbv
  have H0 := Lib.hid h0
  have HFR := Lib.hid hfr
  have HRD := Lib.hid hrd
  have HST := Lib.hid hstep
  clear h0 hfr hrd hstep hbv
  go_enter Tryz.func94, Tryz.ntmps94
  go_wp2
  go_loopw [15] (fun i wr => ∃ k : Nat, k ≤ js.length ∧ i = .int .i64 k ∧ Hid (Inv k wr) ∧ Hid (∀ j, j < k → c j = 0)) (fun i _ => js.length - (intOf i).toNat)
  case atStart => exact ⟨0, Nat.zero_le _, rfl, H0, Lib.hid fun j h => absurd h (Nat.not_lt_zero _)⟩
  case round =>
    obtain ⟨k, hk, rfl, hI, hz⟩ := hrel
    by_cases hlt : k < js.length
    · obtain ⟨j, hj⟩ : ∃ j, js[k]? = some j := ⟨js[k], List.getElem?_eq_getElem hlt⟩
      have hcell : ∀ i u, (jcells j)[i]? = some u → wr.cell? ⟨b, o + (k * 3 + i), none⟩ = some u := fun i u hu => HRD.out k wr hI.out _ u ((flat_at jcells 3 jlen js k i j hj (List.getElem?_eq_some_iff.1 hu).1).trans hu)
      have hc := fun w' (hf : Fr wr w') => HST.out k j w' hj (HFR.out k wr w' hI.out hf)
      obtain ⟨vA, vn, vc, hjv⟩ := HBV.out j (List.mem_of_getElem? hj)
      obtain ⟨⟨ix, sub, bl⟩, bv⟩ := j
      dsimp only at hjv
      subst hjv
      have q0 : wr.cell? ⟨b, o + k * 3, none⟩ = some (.int .u16 ix) := (congrArg (fun z => wr.cell? ⟨b, z, none⟩) (by omega)).trans (hcell 0 _ rfl)
      have q1 : wr.cell? ⟨b, o + k * 3 + 1, none⟩ = some (.int .u8 sub) := (congrArg (fun z => wr.cell? ⟨b, z, none⟩) (by omega)).trans (hcell 1 _ rfl)
      have q2 : wr.cell? ⟨b, o + k * 3 + 2, none⟩ = some (.slice vA vn vc) := (congrArg (fun z => wr.cell? ⟨b, z, none⟩) (by omega)).trans (hcell 2 _ rfl)
      clear hcell hj
      dsimp only at hc
      obtain ⟨ck, hck⟩ : ∃ ck, ck = c k := ⟨_, rfl⟩
      rw [← hck] at hc
      have HCK := Lib.hid hck
      clear hck
      by_cases h0 : ck = 0
      · have h0' := bne_false h0
        go_wp2_with (go_at_call 96; refine (hc _ (by (repeat (with_reducible first | exact Fr.refl _ | assumption | refine Fr.alloc ?_ _ | refine Fr.drew ?_ | refine Fr.drewN ?_ _ | refine Fr.set ?_ (by first | (simp; done) | (simp; omega)) _ | refine Fr.trans ?_ (by assumption))))).mono ?_; rintro e w1 ⟨rfl, hI1, hz1⟩; have HI1 := Lib.hid hI1; clear hI1)
        go_roundw
        case rel =>
          refine ⟨k + 1, by omega, by go_num, HI1, Lib.hid fun j hj => ?_⟩
          by_cases hjk : j = k
          · rw [hjk, ← HCK.out, h0]
          · exact hz.out j (by omega)
        case measure =>
          show js.length - ((k : Int) + 1).toNat < js.length - ((k : Int)).toNat
          omega
      · have h0' := bne_true h0
        go_wp2_with (go_at_call 96; refine (hc _ (by (repeat (with_reducible first | exact Fr.refl _ | assumption | refine Fr.alloc ?_ _ | refine Fr.drew ?_ | refine Fr.drewN ?_ _ | refine Fr.set ?_ (by first | (simp; done) | (simp; omega)) _ | refine Fr.trans ?_ (by assumption))))).mono ?_; rintro e w1 ⟨rfl, hI1, hz1⟩; have HI1 := Lib.hid hI1; clear hI1)
        go_ret2
        exact ⟨k + 1, by omega, HI1, .inr ⟨k, hlt, rfl, hz.out, by rw [← HCK.out]; exact h0, by rw [← HCK.out]; rfl⟩⟩
    · have hkl : k = js.length := by omega
      subst hkl
      have hnl : ¬ ((js.length : Nat) : Int) < (js.length : Nat) := by omega
      go_wp2
      go_ret2
      exact ⟨js.length, Nat.le_refl _, hI, .inl ⟨rfl, hz.out, rfl⟩⟩


end Go.Proofs.YtmllpkpdfhniaaaGreat

namespace Go.Proofs.YtmllpkpdfhniaaaGreat
open Go.RowKit Go.Sort

def lt62 (n : Nat) : Prop := (n : Int) < 4611686018427387904
def cC (its : List (Nat × E × V)) (l : List It) (k : Nat) : Int := match l[k]? with | none => 0 | some x => mayC its x.ix x.sub x.b
def cA (its : List (Nat × E × V)) (l : List It) (k : Nat) : Int := cC (stK its l k) l k
theorem cC_at {its : List (Nat × E × V)} {l : List It} {k : Nat} {x : It} (h : l[k]? = some x) : cC its l k = mayC its x.ix x.sub x.b := by unfold cC; rw [h]
theorem stK_at {its : List (Nat × E × V)} {l : List It} {k : Nat} {x : It} (h : l[k]? = some x) : stK its l (k + 1) = wrI (stK its l k) x.ix x.sub x.b := by
  conv => lhs; unfold stK
  rw [h]
def jits (js : List Jt) : List It := js.map (·.1)
theorem jits_at {js : List Jt} {k : Nat} {j : Jt} (h : js[k]? = some j) : (jits js)[k]? = some j.1 := by simp [jits, h]
theorem jits_len (js : List Jt) : (jits js).length = js.length := by simp [jits]

theorem RdI.bv {w : World} {v : Value} {js : List Jt} (h : RdI w v js) : ∀ j ∈ js, ∃ (A : Option Addr) (n c : Nat), j.2 = .slice A n c := fun j hj => by
  obtain ⟨_, A, c, hv, _⟩ := h.bs j hj
  exact ⟨A, _, c, hv⟩

theorem each_chk {w : World} {db lo hi : Nat} {vl : Value} {its : List (Nat × E × V)} (h : PD w db lo hi vl its) (hS : PS its) (v : Value) (js : List Jt) (hR : RdI w v js) (hn : lt62 js.length) :
    Calls Tryz.prog 94 #[.pointer (some ⟨db, 0, none⟩), v, .func (.func 95) #[] #[]] w fun e w' => (∃ k, k ≤ js.length ∧ ResE (cC its (jits js)) js.length k e) ∧ Fr w w' := by
  have hbv := hR.bv
  have hR' := hR
  obtain ⟨⟨hl, A, c, rfl, hcap, hmax, hx⟩, hbs, hwf⟩ := hR'
  have nilc : ∀ A, js = [] → Calls Tryz.prog 94 #[.pointer (some ⟨db, 0, none⟩), .slice A js.length c, .func (.func 95) #[] #[]] w fun e w' => (∃ k, k ≤ js.length ∧ ResE (cC its (jits js)) js.length k e) ∧ Fr w w' := fun A h0 => by
    subst h0
    exact (each_chk_nil db A c w).mono fun e w' h => ⟨⟨0, Nat.le_refl _, .inl ⟨rfl, fun j hj => absurd hj (Nat.not_lt_zero _), h.1⟩⟩, h.2⟩
  rcases hx with h0 | ⟨b, o, rfl, hb, hx⟩
  · exact nilc A (List.eq_nil_of_length_eq_zero h0)
  · refine (each_chk_walk db b o c js (fun _ w' => Fr w w') (cC its (jits js)) w hn hbv hcap (Fr.refl w) (fun k a b h1 h2 => h1.trans h2) (fun k w' hf i u hu => hf.cell (hx i u hu)) ?_).mono ?_
    · intro k j w1 hj hf
      have hm := List.mem_of_getElem? hj
      rw [cC_at (jits_at hj)]
      exact (May_any (h.fr hf) hS j.1.ix j.1.sub (hwf j hm).2 j.2 j.1.b ((hbs j hm).fr hf)).mono fun e w' h => ⟨h.1, hf.trans h.2, h.2.size⟩
    · rintro e w' ⟨k, hk, hf, hr⟩
      exact ⟨⟨k, hk, hr⟩, hf⟩

theorem each_app {w : World} {db lo hi : Nat} {vl : Value} {its : List (Nat × E × V)} (h : PD w db lo hi vl its) (hS : PS its) (v : Value) (js : List Jt) (hR : RdI w v js) (ha : apartI lo hi v js) (hn : lt62 js.length) :
    Calls Tryz.prog 94 #[.pointer (some ⟨db, 0, none⟩), v, .func (.func 96) #[] #[]] w fun e w' => ∃ k, k ≤ js.length ∧ ResE (cA its (jits js)) js.length k e ∧ PD w' db lo hi vl (stK its (jits js) k) ∧ Chg lo hi w w' := by
  have hbv := hR.bv
  have hR' := hR
  obtain ⟨⟨hl, A, c, rfl, hcap, hmax, hx⟩, hbs, hwf⟩ := hR'
  have nilc : ∀ A, js = [] → Calls Tryz.prog 94 #[.pointer (some ⟨db, 0, none⟩), .slice A js.length c, .func (.func 96) #[] #[]] w fun e w' => ∃ k, k ≤ js.length ∧ ResE (cA its (jits js)) js.length k e ∧ PD w' db lo hi vl (stK its (jits js) k) ∧ Chg lo hi w w' := fun A h0 => by
    subst h0
    exact (each_app_nil db A c w).mono fun e w' hh => ⟨0, Nat.le_refl _, .inl ⟨rfl, fun j hj => absurd hj (Nat.not_lt_zero _), hh.1⟩, h.fr hh.2, Chg.of_fr hh.2⟩
  rcases hx with h0 | ⟨b, o, rfl, hb, hx⟩
  · exact nilc A (List.eq_nil_of_length_eq_zero h0)
  · have hab : b < lo ∨ hi ≤ b := ha.1 b rfl
    refine (each_app_walk db b o c js (fun k w' => PD w' db lo hi vl (stK its (jits js) k) ∧ Chg lo hi w w') (cA its (jits js)) w hn hbv hcap ⟨h, Chg.refl _ _ _⟩ (fun k a b h1 h2 => ⟨h1.1.fr h2, h1.2.trans (Chg.of_fr h2)⟩) (fun k w' hf i u hu => (World.cell?_of_block (hf.2.block b hb hab)).trans (hx i u hu)) ?_).mono ?_
    · intro k j w1 hj hf
      have hm := List.mem_of_getElem? hj
      unfold cA
      rw [cC_at (jits_at hj), stK_at (jits_at hj)]
      exact (write_any hf.1 (stK_PS hS _ k) j.1.ix j.1.sub (hwf j hm).2 j.2 j.1.b (Rd.chg (hbs j hm) hf.2 (ha.2 j hm))).mono fun e w' h => ⟨h.1, ⟨h.2.1, hf.2.trans h.2.2⟩, h.2.2.size⟩
    · rintro e w' ⟨k, hk, hf, hr⟩
      exact ⟨k, hk, hr, hf⟩

/-- dcf.Check. -/
theorem dcfCheck_any {w : World} {db lo hi : Nat} {vl : Value} {its : List (Nat × E × V)} (h : PD w db lo hi vl its) (hS : PS its) (v : Value) (js : List Jt) (hR : RdI w v js) (hn : lt62 js.length) :
    Calls Tryz.prog 23 #[.pointer (some ⟨db, 0, none⟩), v] w fun e w' => (∃ k, k ≤ js.length ∧ ResE (cC its (jits js)) js.length k e) ∧ Fr w w' := by
  have HE := each_chk h hS v js hR hn
  obtain ⟨⟨hl, A, c, rfl, hcap, hmax, hx⟩, hbs, hwf⟩ := hR
  have HZ := Lib.hid hx
  clear h hS hbs hwf hx
  go_enter Tryz.func23, Tryz.ntmps23
  go_wp2_with (go_at_call 94; refine HE.mono ?_; rintro e w1 ⟨⟨k, hk, ⟨rfl, hz, rfl⟩ | ⟨m, hm, rfl, hz, hne, rfl⟩⟩, hF1⟩ <;> have HZ1 := Lib.hid hz <;> clear hz)
  · go_ret2
    exact ⟨⟨_, hk, .inl ⟨rfl, HZ1.out, rfl⟩⟩, by (repeat (with_reducible first | exact Fr.refl _ | assumption | refine Fr.alloc ?_ _ | refine Fr.drew ?_ | refine Fr.drewN ?_ _ | refine Fr.set ?_ (by first | (simp; done) | (simp; omega)) _ | refine Fr.trans ?_ (by assumption)))⟩
  · go_ret2
    exact ⟨⟨_, hk, .inr ⟨m, hm, rfl, HZ1.out, hne, rfl⟩⟩, by (repeat (with_reducible first | exact Fr.refl _ | assumption | refine Fr.alloc ?_ _ | refine Fr.drew ?_ | refine Fr.drewN ?_ _ | refine Fr.set ?_ (by first | (simp; done) | (simp; omega)) _ | refine Fr.trans ?_ (by assumption)))⟩

/-- dcf.Apply. -/
theorem dcfApply_any {w : World} {db lo hi : Nat} {vl : Value} {its : List (Nat × E × V)} (h : PD w db lo hi vl its) (hS : PS its) (v : Value) (js : List Jt) (hR : RdI w v js) (ha : apartI lo hi v js) (hn : lt62 js.length) :
    Calls Tryz.prog 25 #[.pointer (some ⟨db, 0, none⟩), v] w fun e w' => ∃ k, k ≤ js.length ∧ ResE (cA its (jits js)) js.length k e ∧ PD w' db lo hi vl (stK its (jits js) k) ∧ Chg lo hi w w' := by
  have HE := each_app h hS v js hR ha hn
  obtain ⟨⟨hl, A, c, rfl, hcap, hmax, hx⟩, hbs, hwf⟩ := hR
  clear h hS hbs hwf hx ha
  go_enter Tryz.func25, Tryz.ntmps25
  go_wp2_with (go_at_call 94; refine HE.mono ?_; rintro e w1 ⟨k, hk, ⟨rfl, hz, rfl⟩ | ⟨m, hm, rfl, hz, hne, rfl⟩, hP1, hC1⟩ <;> have HZ1 := Lib.hid hz <;> have HP1 := Lib.hid hP1 <;> clear hz hP1)
  · go_ret2
    exact ⟨_, hk, .inl ⟨rfl, HZ1.out, rfl⟩, HP1, hC1⟩
  · go_ret2
    exact ⟨_, hk, .inr ⟨m, hm, rfl, HZ1.out, hne, rfl⟩, HP1, hC1⟩

end Go.Proofs.YtmllpkpdfhniaaaGreat
