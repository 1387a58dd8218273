/- The library's slices.Backward at items; the places of the items that are not written again: plain part. -/
import Derived.RangeFuncNested
import Derived.RangeFuncBound
import Derived.RangeFuncCalls
import Derived.RangeFuncLeaves
import Derived.Shelf.Abstract
import Derived.Shelf.RegionOpen
import Derived.WalkKit
import Derived.OwnWalkIn
import Derived.TacticsInMore
import Derived.LoopNIn
import Derived.LoopIn
import Derived.Maps.OwnIn
import Derived.Test.YtmllpkpdfhniaaaGreatJBLast
import Derived.Test.YtmllpkpdfhniaaaGreatJBRgC
set_option linter.unusedVariables false
set_option linter.unusedSimpArgs false
namespace Go.Proofs.YtmllpkpdfhniaaaGreat
open Go.RowKit Go.Shelf
attribute [local go_sem] Oper.semAt_some

def jd : Jt := (⟨0, 0, []⟩, .slice none 0 0)
def jagg (j : Jt) : Value := .agg #[.int .u16 j.1.ix, .int .u8 j.1.sub, j.2]
/-- From the last one down, the first k. -/
def dn (n k : Nat) : List Nat := (List.range k).map fun j => n - 1 - j
theorem dn_len (n k : Nat) : (dn n k).length = k := by simp [dn]
theorem dn_succ (n k : Nat) : dn n (k + 1) = dn n k ++ [n - 1 - k] := by
  unfold dn
  rw [List.range_succ, List.map_append]
  rfl

/-- What lay below n₀ lies as it lay, and so does block B. -/
def Kq (n₀ B : Nat) (W W' : World) : Prop := Below n₀ W W' ∧ W'.heap[B]? = W.heap[B]?
theorem Kq.refl (n₀ B : Nat) (W : World) : Kq n₀ B W W := ⟨Below.refl _ _, rfl⟩
theorem Kq.trans {n₀ B : Nat} {X Y Z : World} (h : Kq n₀ B X Y) (k : Kq n₀ B Y Z) : Kq n₀ B X Z := ⟨h.1.trans k.1, k.2.trans h.2⟩
theorem Kq.put {n₀ B : Nat} {w : World} (hn : n₀ ≤ w.heap.size) (hB : B < w.heap.size) (W : World) (l : Nat) (o o' : Obj) (hl : w.heap.size ≤ l) (h : W.heap[l]? = some o) (h1 : o.isCells = false) (h2 : o.isWalk = false) : Kq n₀ B W (W.putObj l o') :=
  ⟨belowK_b hn W l o o' hl h h1 h2, (grownBy_putObj' W l o').block B (by have := (Array.getElem?_eq_some_iff.1 h).1; omega) (fun e => by cases e; omega)⟩

set_option maxRecDepth 100000 in
set_option maxHeartbeats 2000000 in
theorem back1_in (F : Fence) (n : Nat) (h8 : F.fn 195) (hro : F.round = none) (hn : 1 ≤ n) (l Bs n₀ b off cap : Nat) (js : List Jt) (hreach : js.length < 4611686018427387904) (hb : b < n₀) (hcap : js.length ≤ cap) (J Jx : List Nat → World → Prop)
    (hY : ∀ pre (x : Nat) W, J pre W → pre.length < js.length → YieldAt F (n - 1) Tryz.prog l #[.int .i64 (x : Int), jagg (js.getD x jd)] W fun e W' =>
      (e = .returned (.bool true) ∧ J (pre ++ [x]) W' ∧ Kq n₀ Bs W W') ∨ (e = .returned (.bool false) ∧ Jx (pre ++ [x]) W'))
    (W : World) (hBs : W.cell? ⟨Bs, 0, none⟩ = some (.slice (some ⟨b, off, none⟩) js.length cap)) (hc : ∀ j u, (js.map jcells).flatten[j]? = some u → W.cell? ⟨b, off + j, none⟩ = some u) (h0 : J [] W) :
    CallsIn F n Tryz.prog 195 #[.func (.yield l) #[] #[], .pointer (some ⟨Bs, 0, none⟩)] W fun e W' => (∃ v, e = .returned v) ∧
      ((∃ ys, ys = dn js.length js.length ∧ J ys W') ∨ (∃ pre, (∃ k, k ≤ js.length ∧ pre = dn js.length k) ∧ Jx pre W')) := by
  refine callsIn_of_wp Tryz.func195 rfl h8 ?_ hro
  simp only [Tryz.ntmps195, List.size_toArray, List.length_cons, List.length_nil, Nat.reduceAdd, Nat.reduceSub, Array.replicate_succ, Array.replicate_zero, List.push_toArray, List.append_toArray, List.nil_append, List.cons_append]
  have HC := Lib.hid hc
  clear hc
  gi_wp2
  gi_loopw [3] (fun i wr => ∃ k m : Nat, k + m = js.length ∧ i = .int .i64 ((m : Int) - 1) ∧ J (dn js.length k) wr ∧ Kq n₀ Bs W wr)
    (fun i _ => (intOf i + 1).toNat)
  case atStart => exact ⟨0, js.length, Nat.zero_add _, rfl, h0, Kq.refl _ _ _⟩
  case round =>
    obtain ⟨k, m, hkm, rfl, hJs, hnx⟩ := hrel
    have hbs := (World.cell?_of_block (a := ⟨Bs, 0, none⟩) hnx.2).trans hBs
    cases m with
    | zero =>
      have hkl : k = js.length := by omega
      subst hkl
      have hneg : ¬ (0 : Int) ≤ ((0 : Nat) : Int) - 1 := by omega
      gi_wp2
      go_end0
      first | exact ⟨⟨_, rfl⟩, .inl hJs⟩ | exact ⟨⟨_, rfl⟩, .inl ⟨_, rfl, hJs⟩⟩
    | succ m =>
      have hmi : (((m + 1 : Nat) : Int) - 1) = (m : Int) := by omega
      rw [hmi]
      have hlt : m < js.length := by omega
      obtain ⟨j, hj⟩ : ∃ j, js[m]? = some j := ⟨js[m], List.getElem?_eq_getElem hlt⟩
      have hjd : js.getD m jd = j := by rw [List.getD_eq_getElem?_getD, hj]; rfl
      have hcell : ∀ i u, (jcells j)[i]? = some u → wr.cell? ⟨b, off + (m * 3 + i), none⟩ = some u := fun i u hu => (hnx.1.cell (p := ⟨b, _, none⟩) hb).trans (HC.out _ u ((flat_at jcells 3 jlen js m i j hj (List.getElem?_eq_some_iff.1 hu).1).trans hu))
      have hy1 := hY _ m wr hJs (by rw [dn_len]; omega)
      rw [hjd] at hy1
      have hdn : dn js.length (k + 1) = dn js.length k ++ [m] := by rw [dn_succ]; congr 2; omega
      have HDN := Lib.hid hdn
      obtain ⟨⟨ix, sub, bl⟩, bv⟩ := j
      have q0 : wr.cell? ⟨b, off + m * 3, none⟩ = some (.int .u16 ix) := (congrArg (fun z => wr.cell? ⟨b, z, none⟩) (by omega)).trans (hcell 0 _ rfl)
      have q1 : wr.cell? ⟨b, off + m * 3 + 1, none⟩ = some (.int .u8 sub) := (congrArg (fun z => wr.cell? ⟨b, z, none⟩) (by omega)).trans (hcell 1 _ rfl)
      have q2 : wr.cell? ⟨b, off + m * 3 + 2, none⟩ = some bv := (congrArg (fun z => wr.cell? ⟨b, z, none⟩) (by omega)).trans (hcell 2 _ rfl)
      unfold jagg at hy1
      dsimp only at hy1
      obtain ⟨fn, tmps, assign, body, hy, hR⟩ := hy1
      have g1 : (0 : Int) ≤ (m : Int) := by omega
      have g2 : (m : Int) < (js.length : Int) := by omega
      clear hcell hj hjd hmi hdn
      gi_wp2
      refine hR.mono ?_
      rintro e W3 (⟨rfl, hJ3, hk3⟩ | ⟨rfl, hJx3⟩)
      · gi_wp2
        go_roundw
        case rel => exact ⟨k + 1, m, by omega, rfl, by rw [HDN.out]; exact hJ3, hnx.trans hk3⟩
        case measure =>
          show ((m : Int) - 1 + 1).toNat < ((m : Int) + 1).toNat
          omega
      · gi_wp2
        refine bodyPost_ret (results_none rfl _ _ _) rfl ?_
        first | exact ⟨⟨_, rfl⟩, .inr ⟨_, ⟨k + 1, by omega, HDN.out.symm⟩, hJx3⟩⟩ | exact ⟨⟨_, rfl⟩, .inr ⟨k + 1, by omega, by rw [HDN.out]; exact hJx3⟩⟩

set_option maxRecDepth 100000 in
set_option maxHeartbeats 1000000 in
theorem back1_nil_in (F : Fence) (n : Nat) (h8 : F.fn 195) (hro : F.round = none) (l Bs : Nat) (A : Option Addr) (cap : Nat) (J : List Nat → World → Prop) (W : World) (hBs : W.cell? ⟨Bs, 0, none⟩ = some (.slice A 0 cap)) (h0 : J [] W) :
    CallsIn F n Tryz.prog 195 #[.func (.yield l) #[] #[], .pointer (some ⟨Bs, 0, none⟩)] W fun e W' => (∃ v, e = .returned v) ∧ J [] W' := by
  refine callsIn_of_wp Tryz.func195 rfl h8 ?_ hro
  simp only [Tryz.ntmps195, List.size_toArray, List.length_cons, List.length_nil, Nat.reduceAdd, Nat.reduceSub, Array.replicate_succ, Array.replicate_zero, List.push_toArray, List.append_toArray, List.nil_append, List.cons_append]
  gi_wp2
  gi_loopw [3] (fun i wr => i = .int .i64 (-1) ∧ J [] wr) (fun _ _ => 0)
  case atStart => exact ⟨rfl, h0⟩
  case round =>
    obtain ⟨rfl, hJs⟩ := hrel
    gi_wp2
    go_end0
    exact ⟨⟨_, rfl⟩, hJs⟩

set_option maxHeartbeats 1000000 in
theorem back_in (F : Fence) (n : Nat) (h6 : F.fn 151) (hro : F.round = none) (a : Option Addr) (len cap : Nat) (w : World) :
    CallsIn F n Tryz.prog 151 #[.slice a len cap] w fun e w' => e = .returned (.func (.func 195) #[] #[.pointer (some ⟨w.heap.size, 0, none⟩)]) ∧ w' = w.alloc (.cells #[.slice a len cap] 23) := by
  refine callsIn_of_wp Tryz.func151 rfl h6 ?_ hro
  simp only [Tryz.ntmps151, List.size_toArray, List.length_cons, List.length_nil, Nat.reduceAdd, Nat.reduceSub, Array.replicate_succ, Array.replicate_zero, List.push_toArray, List.append_toArray, List.nil_append, List.cons_append]
  gi_wp2
  go_ret
  exact ⟨rfl, rfl⟩

/-- slices.Backward(s) hands back a value that gives all from the last one down, or the first of them. -/
theorem back_stops (F : Fence) (n : Nat) (h8 : F.fn 195) (hro : F.round = none) (hn : 1 ≤ n) (Bs n₀ : Nat) (sv : Value) (js : List Jt) (hreach : js.length < 4611686018427387904) (w : World) (hBs : Bs < w.heap.size) (hn₀ : n₀ ≤ w.heap.size)
    (hc : w.cell? ⟨Bs, 0, none⟩ = some sv) (hR : Rd w 3 sv js.length (js.map jcells).flatten) (hlow : ∀ g, sv.ownBlock = some g → js.length ≠ 0 → g < n₀) :
    SeqStopsK F n Tryz.prog 195 #[.pointer (some ⟨Bs, 0, none⟩)] (fun x : Nat => #[Value.int .i64 (x : Int), jagg (js.getD x jd)]) (Kq n₀ Bs) (fun ys => ys = dn js.length js.length)
      (fun pre => ∃ k, k ≤ js.length ∧ pre = dn js.length k) js.length w := fun l J Jx W hW _ _ hY h0 => by
  have hc' := (hW.cell (p := ⟨Bs, 0, none⟩) hBs).trans hc
  obtain ⟨hl, A, cap, rfl, hcap, hmax, hx⟩ := hR
  by_cases hz : js.length = 0
  · have : js = [] := List.eq_nil_of_length_eq_zero hz
    subst this
    exact (back1_nil_in F n h8 hro l Bs A cap J W hc' h0).mono fun e W' ⟨he, hj⟩ => ⟨he, .inl ⟨_, rfl, hj⟩⟩
  · rcases hx with h1 | ⟨b, o, rfl, hb, hh⟩
    · exact absurd h1 hz
    · exact back1_in F n h8 hro hn l Bs n₀ b o cap js hreach (hlow b rfl hz) hcap J Jx hY W hc' (fun j u hu => (hW.cell (p := ⟨b, _, none⟩) hb).trans (hh j u hu)) h0

end Go.Proofs.YtmllpkpdfhniaaaGreat
