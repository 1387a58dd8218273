/- Words that all walks of this seat use: how a world stands to another one; slices that are read. Appending what is read to a slice that the call made itself. The program's types.of, kind.fits, Size, plain, Plain and check: what each call answers, in whatever world. -/
import Derived.Test.YtmllpkpdfhniaaaGreatProg
import Derived.WalkKit
import Derived.WalkSpells
import Derived.WalkLawsBesides
import Derived.Lib.ConvBytes
import Derived.BigQuiet
import Derived.Deep.QuietTactic
import Derived.Deep.RegionHeld3
import Derived.Deep.RegionWith
import Derived.Deep.RegionLaw
import Derived.Deep.AppendLies
import Derived.Deep.DeepFit
import Derived.KernelRfl
import Derived.Lib.Hide
import Derived.Test.YtmllpkpdfhniaaaGreatJANum
import Derived.Sort.Grow
import Derived.StillTailTactics
set_option linter.unusedVariables false
set_option linter.unusedSimpArgs false
namespace Go.Proofs.YtmllpkpdfhniaaaGreat
open Go.RowKit

/-- What was there is as it was; there may be more. -/
def Fr (w w' : World) : Prop := RowKit.Below w.heap.size w w'
theorem Fr.refl (w : World) : Fr w w := RowKit.Below.refl _ _
theorem Fr.size {w w' : World} (h : Fr w w') : w.heap.size ≤ w'.heap.size := RowKit.Below.size h
theorem Fr.trans {a b c : World} (h : Fr a b) (k : Fr b c) : Fr a c := RowKit.Below.trans h (RowKit.Below.mono k h.size)
theorem Fr.alloc {w w' : World} (h : Fr w w') (o : Obj) : Fr w (w'.alloc o) := RowKit.Below.alloc h h.size o
theorem Fr.drew {w w' : World} (h : Fr w w') : Fr w w'.drew := RowKit.Below.drew h
theorem Fr.drewN {w w' : World} (h : Fr w w') (n : Nat) : Fr w (w'.drewN n) := ⟨h.os, h.tape, h.output, h.size, h.block⟩
theorem Fr.set {w w' : World} (h : Fr w w') {p : Addr} (hp : w.heap.size ≤ p.block) (u : Value) : Fr w (w'.setCell p u) := RowKit.Below.setCell h hp u
theorem Fr.cells {w w' : World} (h : Fr w w') : ∀ b o, b < w.heap.size → w'.cell? ⟨b, o, none⟩ = w.cell? ⟨b, o, none⟩ := fun b o hb => RowKit.Below.cell h (p := ⟨b, o, none⟩) hb
theorem Fr.froz {w w' : World} (h : Fr w w') : ∀ b o, b < w.heap.size → w'.frozen? ⟨b, o, none⟩ = w.frozen? ⟨b, o, none⟩ := fun b o hb => RowKit.Below.frozen h (p := ⟨b, o, none⟩) hb
theorem Fr.at_ {w w' : World} (h : Fr w w') {b : Nat} {o : Obj} (hb : w.heap[b]? = some o) : w'.heap[b]? = some o :=
  (h.block b (Array.getElem?_eq_some_iff.1 hb).1).trans hb
theorem Fr.cell {w w' : World} (h : Fr w w') {a : Addr} {v : Value} (hc : w.cell? a = some v) : w'.cell? a = some v :=
  (RowKit.Below.cell h (World.block_lt_of_cell? w a hc)).trans hc
theorem Fr.grown {w w' : World} (h : Fr w w') {w2 : World} {row : Option Nat} (hg : w'.grownBy w2 row) (hr : ∀ k, row = some k → w.heap.size ≤ k) : Fr w w2 := RowKit.Below.grown h hg h.size hr
theorem Fr.of_grown {w w' : World} (hg : w.grownBy w' none) : Fr w w' := (Fr.refl w).grown hg (fun _ h => by cases h)

/-- .. just some draws, and blocks laid behind. -/
def Gr (w w' : World) : Prop := ∃ (q : Nat) (os : Array Obj), w' = Sort.grow (w.drewN q) os
theorem Gr.refl (w : World) : Gr w w := ⟨0, #[], by simp [Sort.grow, World.drewN]⟩
theorem Gr.alloc {w w' : World} (h : Gr w w') (o : Obj) : Gr w (w'.alloc o) := by
  obtain ⟨q, os, rfl⟩ := h
  exact ⟨q, os ++ #[o], by rw [Sort.alloc_eq_grow, Sort.grow_grow]⟩
theorem Gr.drewN {w w' : World} (h : Gr w w') (n : Nat) : Gr w (w'.drewN n) := by
  obtain ⟨q, os, rfl⟩ := h
  exact ⟨q + n, os, by simp [Sort.grow, World.drewN, Nat.add_assoc]⟩
theorem Gr.drew {w w' : World} (h : Gr w w') : Gr w w'.drew := h.drewN 1
theorem Gr.trans {a b c : World} (h : Gr a b) (k : Gr b c) : Gr a c := by
  obtain ⟨q, os, rfl⟩ := h
  obtain ⟨q', os', rfl⟩ := k
  exact ⟨q + q', os ++ os', by simp [Sort.grow, World.drewN, Nat.add_assoc, Array.append_assoc]⟩
theorem Gr.fr {w w' : World} (h : Gr w w') : Fr w w' := by
  obtain ⟨q, os, rfl⟩ := h
  refine ⟨rfl, rfl, rfl, by show w.heap.size ≤ (w.heap ++ os).size; rw [Array.size_append]; omega, fun k hk => ?_⟩
  show (w.heap ++ os)[k]? = _
  rw [Array.getElem?_append_left hk]

theorem below_drewN {B : Nat} {a w : World} (h : RowKit.Below B a w) (n : Nat) : RowKit.Below B a (w.drewN n) := ⟨h.os, h.tape, h.output, h.size, h.block⟩

@[go_sem] theorem setCell_drewN' (w : World) (n : Nat) (p : Addr) (u : Value) : (w.drewN n).setCell p u = (w.setCell p u).drewN n := rfl
@[go_sem] theorem alloc_drewN' (w : World) (n : Nat) (o : Obj) : (w.drewN n).alloc o = (w.alloc o).drewN n := rfl

theorem mixed : Tryz.prog.follows .mixedOrders = true := by kernel_rfl

/-! ### Slices that are read: n elements of sz cells each -/
def Rd (w : World) (sz : Nat) (v : Value) (n : Nat) (cs : List Value) : Prop :=
  cs.length = n * sz ∧ ∃ A c, v = .slice A n c ∧ n ≤ c ∧ c ≤ 9223372036854775807 ∧
    (n = 0 ∨ ∃ b o, A = some ⟨b, o, none⟩ ∧ b < w.heap.size ∧ ∀ j u, cs[j]? = some u → w.cell? ⟨b, o + j, none⟩ = some u)
theorem Rd.fr {w w' : World} {sz n : Nat} {v : Value} {cs : List Value} (h : Rd w sz v n cs) (hf : Fr w w') : Rd w' sz v n cs := by
  obtain ⟨hl, A, c, hv, hn, hc, h⟩ := h
  refine ⟨hl, A, c, hv, hn, hc, h.imp id ?_⟩
  rintro ⟨b, o, hA, hb, hh⟩
  exact ⟨b, o, hA, Nat.lt_of_lt_of_le hb hf.size, fun j u hu => (hf.cells b _ hb).trans (hh j u hu)⟩
theorem Rd.nil (w : World) (sz : Nat) : Rd w sz (.slice none 0 0) 0 [] := ⟨by simp, none, 0, rfl, Nat.le_refl _, by omega, .inl rfl⟩
/-- A value at the head of a block whose first cells are these. -/
theorem Rd.of_block {w : World} {B n c sz : Nat} {arr : Array Value} {t : TypeId} {fr : Nat × Nat} {cs : List Value} (hb : w.heap[B]? = some (.cells arr t fr)) (hn : n ≤ c) (hc : c ≤ 9223372036854775807)
    (hl : cs.length = n * sz) (ht : cs <+: arr.toList) : Rd w sz (.slice (some ⟨B, 0, none⟩) n c) n cs := by
  refine ⟨hl, _, c, rfl, hn, hc, .inr ⟨B, 0, rfl, (Array.getElem?_eq_some_iff.1 hb).1, fun j u hu => ?_⟩⟩
  obtain ⟨r, hr⟩ := ht
  have hj : j < cs.length := (List.getElem?_eq_some_iff.1 hu).1
  have e : w.cell? ⟨B, 0 + j, none⟩ = arr[j]? := by simp [World.cell?, hb]
  rw [e, ← Array.getElem?_toList, ← hr, List.getElem?_append_left hj]
  exact hu
theorem Rd.of_own {w : World} {base : Nat} {e : TypeId} {sz n : Nat} {v : Value} {cs : List Value} (h : w.ownsRow base e sz v n cs) : Rd w sz v n cs := by
  obtain ⟨hl, h⟩ := h
  rcases h with ⟨rfl, rfl⟩ | ⟨g, cap, cur, rfl, hb, hg, hn, hm, hs, ht⟩
  · have : cs = [] := List.eq_nil_of_length_eq_zero (by simpa using hl)
    subst this
    exact Rd.nil w sz
  · exact Rd.of_block hg hn (by simpa only [maxLen] using hm) hl ⟨_, by rw [← ht]; exact List.take_append_drop _ _⟩
/-- Bytes. -/
def bcs (l : List UInt8) : List Value := l.map fun x => Value.int .u8 (x.toNat : Int)
theorem bcs_len (l : List UInt8) : (bcs l).length = l.length := by simp [bcs]
theorem bcs_at (l : List UInt8) (j : Nat) (h : j < l.length) : (bcs l)[j]? = some (.int .u8 ((l.getD j 0).toNat : Int)) := by
  simp [bcs, List.getElem?_eq_getElem h, List.getD]
def RdB (w : World) (v : Value) (l : List UInt8) : Prop := Rd w 1 v l.length (bcs l)
theorem RdB.fr {w w' : World} {v : Value} {l : List UInt8} (h : RdB w v l) (hf : Fr w w') : RdB w' v l := Rd.fr h hf
theorem RdB.nil (w : World) : RdB w (.slice none 0 0) [] := Rd.nil w 1
/-- Bytes and a number are handed back; what was there is as it was. -/
def RetB (r : Int) (l : List UInt8) (w : World) (e : Ending) (w' : World) : Prop := ∃ v, e = .returned (.tuple #[v, .int .i64 r]) ∧ RdB w' v l ∧ Fr w w'

/-- A value and a number are handed back. -/
def RetV (v : V) (c : Int) (w : World) (e : Ending) (w' : World) : Prop := e = .returned (.tuple #[v.agg, .int .i64 c]) ∧ Fr w w'

theorem RetV.mk' {v v' : V} {c c' : Int} {w w' : World} (h1 : v' = v) (h2 : c' = c) (h : Fr w w') : RetV v' c' w (.returned (.tuple #[.agg #[.int .i64 v.t, .int .u64 v.n, .string v.b], .int .i64 c])) w' := by
  subst h1 h2
  exact ⟨rfl, h⟩

theorem fr_bytes (w : World) (e : TypeId) (s : ByteArray) : Fr w (Lib.bytesWorld w e s) := by
  refine ⟨rfl, rfl, rfl, by rw [Lib.bytesWorld_size]; omega, fun k hk => Lib.bytesWorld_at_old w e s k hk⟩
theorem grownCap_le' (w : World) (need old : Nat) (e : TypeId) (h : need ≤ 9223372036854775807) : grownCap w need old e ≤ 9223372036854775807 := by
  have := grownCap_le_maxLen w need old e (by simpa only [maxLen] using h)
  simpa only [maxLen] using this
/-- '[]byte(s)' is read as the string's bytes. -/
theorem rd_bytes (w : World) (e : TypeId) (s : ByteArray) (hs : s.size ≤ 9223372036854775807) : RdB (Lib.bytesWorld w e s) (.slice (some ⟨w.heap.size, 0, none⟩) s.size (grownCap w s.size 0 e)) s.data.toList := by
  have h := Rd.of_block (sz := 1) (n := s.size) (c := grownCap w s.size 0 e) (cs := bcs s.data.toList) (Lib.bytesWorld_at_new w e s) (grownCap_ge w s.size 0 e) (grownCap_le' w s.size 0 e hs) (by simp [bcs]) (by
    refine ⟨(Array.replicate (grownCap w s.size 0 e - s.size) (Value.int .u8 0)).toList, ?_⟩
    simp [Lib.bytesCells, bcs])
  simpa [RdB] using h

theorem rd_bytes' (w : World) (e : TypeId) (s : ByteArray) (hs : s.size ≤ 9223372036854775807) {B : Nat} (hB : B = w.heap.size) : RdB (Lib.bytesWorld w e s) (.slice (some ⟨B, 0, none⟩) s.size (grownCap w s.size 0 e)) s.data.toList := by
  subst hB
  exact rd_bytes w e s hs

theorem ret_int {k : IntKind} {a b : Int} (h : a = b) : Ending.returned (.int k a) = .returned (.int k b) := by rw [h]
theorem ret_bool {a b : Bool} (h : a = b) : Ending.returned (.bool a) = .returned (.bool b) := by rw [h]
theorem beq_true {a b : Int} (h : a = b) : (a == b) = true := by simp [h]
theorem beq_false {a b : Int} (h : a ≠ b) : (a == b) = false := by simp [h]
theorem bne_true {a b : Int} (h : a ≠ b) : (a != b) = true := by simp [h]
theorem bne_false {a b : Int} (h : a = b) : (a != b) = false := by simp [h]

end Go.Proofs.YtmllpkpdfhniaaaGreat

namespace Go.Proofs.YtmllpkpdfhniaaaGreat
open Go.RowKit Go.Sort

theorem append_none {P : Program} (w : World) (base : Nat) (t ty e : TypeId) (i : TypeInfo) (size : Nat) (ht : P.underlying t = some (.slice e)) (hi : P.info? e = some i)
    (v : Value) (n : Nat) (xs : List Value) (hown : w.ownsRow base e size v n xs) (c : Nat) : (Builtin.append_ #[t, t] ty #[v, .slice none 0 c]).run P w = .ok v w := by
  rcases hown.2 with ⟨rfl, rfl⟩ | ⟨g, cap, cur, rfl, _, _, hnc, _⟩
  · simp [Builtin.append_, run_underlying ht, sizeOf, typeInfo, hi, Builtin.lenOf, Builtin.firstCells]
  · simp [Builtin.append_, run_underlying ht, sizeOf, typeInfo, hi, Builtin.lenOf, Builtin.firstCells, hnc, storeCells]

theorem run_append_rd {P : Program} (w : World) (base : Nat) (t ty e : TypeId) (i : TypeInfo) (z : Value) (size bytes : Nat) (ht : P.underlying t = some (.slice e)) (hi : P.info? e = some i) (hz : i.zero = some z)
    (hsize : i.size = size) (hby : i.bytes = bytes) (hzs : z.cells.size = size) (hsz : 0 < size)
    (v : Value) (n : Nat) (xs : List Value) (hown : w.ownsRow base e size v n xs) (u : Value) (m : Nat) (cs : List Value) (hR : Rd w size u m cs) (h1 : ∀ x ∈ cs, x.oneCell' = true)
    (h63 : n + m ≤ maxLen) (hbytes : (n + m) * bytes ≤ 140737488355328) (hbase : base ≤ w.heap.size) :
    ∃ v' w', (Builtin.append_ #[t, t] ty #[v, u]).run P w = .ok v' w' ∧ w'.ownsRow base e size v' (n + m) (xs ++ cs) ∧ w.grownBy w' v.ownBlock := by
  obtain ⟨hl, A, c, rfl, hn, hcap, hx⟩ := hR
  cases A with
  | none =>
    have h0 : m = 0 := by
      rcases hx with hx | ⟨b, o, hA, _⟩
      · exact hx
      · cases hA
    subst h0
    have : cs = [] := List.eq_nil_of_length_eq_zero (by simpa using hl)
    subst this
    refine ⟨v, w, append_none w base t ty e i size ht hi v n xs hown c, by simpa using hown, ?_⟩
    exact ⟨rfl, rfl, rfl, Nat.le_refl _, fun _ _ _ => rfl⟩
  | some ad =>
    obtain ⟨v', w', hr, h2, h3, _⟩ := run_append_own (P := P) w base t ty e i z size bytes ht hi hz hsize hby hzs hsz v n xs hown ad m c cs hl (fun j x hj => by
      rcases hx with hx | ⟨b, o, hA, hb, hh⟩
      · subst hx
        have : cs = [] := List.eq_nil_of_length_eq_zero (by simpa using hl)
        subst this
        simp at hj
      · cases hA
        have hadd : (⟨b, o, none⟩ : Addr).add j = ⟨b, o + j, none⟩ := by unfold Addr.add; split <;> simp_all
        rw [hadd]
        exact hh j x hj) h1 h63 hbytes hbase
    exact ⟨v', w', hr, h2, h3⟩

theorem wp_append_rd {P : Program} (w : World) {o : Oper} {a : Act} {K : Act → World → Prop} {Q : Exit → Act → World → Prop} (s x : Operand) (t : TypeId)
    (ho : o.op = .call { callee := .builtin .append, args := #[s, x], argTypes := #[t, t] })
    (base : Nat) (e : TypeId) (i : TypeInfo) (z : Value) (size bytes : Nat) (ht : P.underlying t = some (.slice e)) (hi : P.info? e = some i) (hz : i.zero = some z)
    (hsize : i.size = size) (hby : i.bytes = bytes) (hzs : z.cells.size = size) (hsz : 0 < size)
    (v : Value) (n : Nat) (xs : List Value) (hs : a.eval s = v) (hown : w.ownsRow base e size v n xs) (u : Value) (m : Nat) (cs : List Value) (hx : a.eval x = u) (hR : Rd w size u m cs) (h1 : ∀ x ∈ cs, x.oneCell' = true)
    (h63 : n + m ≤ maxLen) (hbytes : (n + m) * bytes ≤ 140737488355328) (hbase : base ≤ w.heap.size)
    (h : ∀ v' w', w'.ownsRow base e size v' (n + m) (xs ++ cs) → w.grownBy w' v.ownBlock → K (a.put o.dst v') w') : o.wp P a w K Q := by
  obtain ⟨v', w', hr, h2, h3⟩ := run_append_rd (P := P) w base t o.type e i z size bytes ht hi hz hsize hby hzs hsz v n xs hown u m cs hR h1 h63 hbytes hbase
  unfold Oper.wp execOp
  simp only [ho, resolve, invoke, builtin, Sem.run_bind, Sem.run_pure, Result.andThen_ok, List.map_toArray, List.map_cons, List.map_nil, hs, hx, hr]
  exact h v' w' h2 h3

theorem wpList_append_rd {P : Program} (w : World) {ops : Array Oper} {rest : List Oper} {o : Oper} {a : Act} {Q : Exit → Act → World → Prop} (hgd : o.guard = none) (s x : Operand) (t : TypeId)
    (ho : o.op = .call { callee := .builtin .append, args := #[s, x], argTypes := #[t, t] })
    (base : Nat) (e : TypeId) (i : TypeInfo) (z : Value) (size bytes : Nat) (ht : P.underlying t = some (.slice e)) (hi : P.info? e = some i) (hz : i.zero = some z)
    (hsize : i.size = size) (hby : i.bytes = bytes) (hzs : z.cells.size = size) (hsz : 0 < size)
    (v : Value) (n : Nat) (xs : List Value) (hs : a.eval s = v) (hown : w.ownsRow base e size v n xs) (u : Value) (m : Nat) (cs : List Value) (hx : a.eval x = u) (hR : Rd w size u m cs) (h1 : ∀ x ∈ cs, x.oneCell' = true)
    (h63 : n + m ≤ maxLen) (hbytes : (n + m) * bytes ≤ 140737488355328) (hbase : base ≤ w.heap.size)
    (h : ∀ v' w', w'.ownsRow base e size v' (n + m) (xs ++ cs) → w.grownBy w' v.ownBlock → wpList P ops Q rest (a.put o.dst v') w') : wpList P ops Q (o :: rest) a w :=
  wpList_plain hgd fun _ hK => wp_append_rd w s x t ho base e i z size bytes ht hi hz hsize hby hzs hsz v n xs hs hown u m cs hx hR h1 h63 hbytes hbase fun v' w' h2 h3 => hK _ _ (h v' w' h2 h3)

theorem step_append_rd {P : Program} (w : World) {ops : Array Oper} {o : Oper} {a : Act} {K : Act → World → Prop} {Q : Exit → Act → World → Prop} {E : Prop} (hgd : o.guard = none) (s x : Operand) (t : TypeId)
    (ho : o.op = .call { callee := .builtin .append, args := #[s, x], argTypes := #[t, t] })
    (base : Nat) (e : TypeId) (i : TypeInfo) (z : Value) (size bytes : Nat) (ht : P.underlying t = some (.slice e)) (hi : P.info? e = some i) (hz : i.zero = some z)
    (hsize : i.size = size) (hby : i.bytes = bytes) (hzs : z.cells.size = size) (hsz : 0 < size)
    (v : Value) (n : Nat) (xs : List Value) (hs : a.eval s = v) (hown : w.ownsRow base e size v n xs) (u : Value) (m : Nat) (cs : List Value) (hx : a.eval x = u) (hR : Rd w size u m cs) (h1 : ∀ x ∈ cs, x.oneCell' = true)
    (h63 : n + m ≤ maxLen) (hbytes : (n + m) * bytes ≤ 140737488355328) (hbase : base ≤ w.heap.size)
    (h : ∀ v' w', w'.ownsRow base e size v' (n + m) (xs ++ cs) → w.grownBy w' v.ownBlock → K (a.put o.dst v') w') :
    if Region.wanted o (yielded ops a.tmps) = true then Oper.wp P o a w K Q else E := by
  have hw : Region.wanted o (yielded ops a.tmps) = true := by simp [Region.wanted, hgd]
  rw [if_pos hw]
  exact wp_append_rd w s x t ho base e i z size bytes ht hi hz hsize hby hzs hsz v n xs hs hown u m cs hx hR h1 h63 hbytes hbase h

/-- Bytes in memory of the call's own. -/
def OB (w : World) (base : Nat) (v : Value) (l : List UInt8) : Prop := w.ownsRow base 5 1 v l.length (bcs l)
theorem bcs_one (l : List UInt8) : ∀ x ∈ bcs l, x.oneCell' = true := fun x hx => by
  obtain ⟨y, _, rfl⟩ := List.mem_map.1 hx
  rfl
theorem bcs_app (l m : List UInt8) : bcs (l ++ m) = bcs l ++ bcs m := by simp [bcs]
theorem OB.nil (w : World) (base : Nat) : OB w base (.slice none 0 0) [] := World.ownsRow_nil _ _ _ _
theorem OB.rd {w : World} {base : Nat} {v : Value} {l : List UInt8} (h : OB w base v l) : RdB w v l := Rd.of_own h
theorem infoByte : (Tryz.prog.info? 5).map (fun i => (i.zero, i.size, i.bytes)) = some (some (.int .u8 0), 1, 1) := by kernel_rfl
theorem OB.fr {w w' : World} {base : Nat} {v : Value} {l : List UInt8} (h : OB w base v l) (hf : Fr w w') : OB w' base v l := by
  refine ⟨h.1, h.2.imp id ?_⟩
  rintro ⟨g, cap, cur, hv, hlg, hg, r⟩
  exact ⟨g, cap, cur, hv, hlg, hf.at_ hg, r⟩

end Go.Proofs.YtmllpkpdfhniaaaGreat

namespace Go.Proofs.YtmllpkpdfhniaaaGreat
open Go.RowKit

theorem of_1 (w : World) : Calls Tryz.prog 154 #[.int .i64 1] w fun e w' => e = .returned (.agg #[.int .i64 1, .bool false, .bool true]) ∧ Fr w w' := by
  go_enter Tryz.func154, Tryz.ntmps154
  go_wp2
  exact bodyPost_ret (v := .agg #[.int .i64 1, .bool false, .bool true]) (by simp [results, Tryz.results154, go_sem]) rfl ⟨rfl, (Fr.refl _).alloc _⟩
theorem of_5 (w : World) : Calls Tryz.prog 154 #[.int .i64 5] w fun e w' => e = .returned (.agg #[.int .i64 1, .bool false, .bool true]) ∧ Fr w w' := by
  go_enter Tryz.func154, Tryz.ntmps154
  go_wp2
  exact bodyPost_ret (v := .agg #[.int .i64 1, .bool false, .bool true]) (by simp [results, Tryz.results154, go_sem]) rfl ⟨rfl, (Fr.refl _).alloc _⟩
theorem of_2 (w : World) : Calls Tryz.prog 154 #[.int .i64 2] w fun e w' => e = .returned (.agg #[.int .i64 1, .bool true, .bool true]) ∧ Fr w w' := by
  go_enter Tryz.func154, Tryz.ntmps154
  go_wp2
  exact bodyPost_ret (v := .agg #[.int .i64 1, .bool true, .bool true]) (by simp [results, Tryz.results154, go_sem]) rfl ⟨rfl, (Fr.refl _).alloc _⟩
theorem of_3 (w : World) : Calls Tryz.prog 154 #[.int .i64 3] w fun e w' => e = .returned (.agg #[.int .i64 2, .bool true, .bool true]) ∧ Fr w w' := by
  go_enter Tryz.func154, Tryz.ntmps154
  go_wp2
  exact bodyPost_ret (v := .agg #[.int .i64 2, .bool true, .bool true]) (by simp [results, Tryz.results154, go_sem]) rfl ⟨rfl, (Fr.refl _).alloc _⟩
theorem of_4 (w : World) : Calls Tryz.prog 154 #[.int .i64 4] w fun e w' => e = .returned (.agg #[.int .i64 4, .bool true, .bool true]) ∧ Fr w w' := by
  go_enter Tryz.func154, Tryz.ntmps154
  go_wp2
  exact bodyPost_ret (v := .agg #[.int .i64 4, .bool true, .bool true]) (by simp [results, Tryz.results154, go_sem]) rfl ⟨rfl, (Fr.refl _).alloc _⟩
theorem of_21 (w : World) : Calls Tryz.prog 154 #[.int .i64 21] w fun e w' => e = .returned (.agg #[.int .i64 8, .bool true, .bool true]) ∧ Fr w w' := by
  go_enter Tryz.func154, Tryz.ntmps154
  go_wp2
  exact bodyPost_ret (v := .agg #[.int .i64 8, .bool true, .bool true]) (by simp [results, Tryz.results154, go_sem]) rfl ⟨rfl, (Fr.refl _).alloc _⟩
theorem of_6 (w : World) : Calls Tryz.prog 154 #[.int .i64 6] w fun e w' => e = .returned (.agg #[.int .i64 2, .bool false, .bool true]) ∧ Fr w w' := by
  go_enter Tryz.func154, Tryz.ntmps154
  go_wp2
  exact bodyPost_ret (v := .agg #[.int .i64 2, .bool false, .bool true]) (by simp [results, Tryz.results154, go_sem]) rfl ⟨rfl, (Fr.refl _).alloc _⟩
theorem of_7 (w : World) : Calls Tryz.prog 154 #[.int .i64 7] w fun e w' => e = .returned (.agg #[.int .i64 4, .bool false, .bool true]) ∧ Fr w w' := by
  go_enter Tryz.func154, Tryz.ntmps154
  go_wp2
  exact bodyPost_ret (v := .agg #[.int .i64 4, .bool false, .bool true]) (by simp [results, Tryz.results154, go_sem]) rfl ⟨rfl, (Fr.refl _).alloc _⟩
theorem of_27 (w : World) : Calls Tryz.prog 154 #[.int .i64 27] w fun e w' => e = .returned (.agg #[.int .i64 8, .bool false, .bool true]) ∧ Fr w w' := by
  go_enter Tryz.func154, Tryz.ntmps154
  go_wp2
  exact bodyPost_ret (v := .agg #[.int .i64 8, .bool false, .bool true]) (by simp [results, Tryz.results154, go_sem]) rfl ⟨rfl, (Fr.refl _).alloc _⟩
theorem of_9 (w : World) : Calls Tryz.prog 154 #[.int .i64 9] w fun e w' => e = .returned (.agg #[.int .i64 0, .bool false, .bool true]) ∧ Fr w w' := by
  go_enter Tryz.func154, Tryz.ntmps154
  go_wp2
  exact bodyPost_ret (v := .agg #[.int .i64 0, .bool false, .bool true]) (by simp [results, Tryz.results154, go_sem]) rfl ⟨rfl, (Fr.refl _).alloc _⟩
theorem of_10 (w : World) : Calls Tryz.prog 154 #[.int .i64 10] w fun e w' => e = .returned (.agg #[.int .i64 0, .bool false, .bool true]) ∧ Fr w w' := by
  go_enter Tryz.func154, Tryz.ntmps154
  go_wp2
  exact bodyPost_ret (v := .agg #[.int .i64 0, .bool false, .bool true]) (by simp [results, Tryz.results154, go_sem]) rfl ⟨rfl, (Fr.refl _).alloc _⟩
theorem of_15 (w : World) : Calls Tryz.prog 154 #[.int .i64 15] w fun e w' => e = .returned (.agg #[.int .i64 0, .bool false, .bool true]) ∧ Fr w w' := by
  go_enter Tryz.func154, Tryz.ntmps154
  go_wp2
  exact bodyPost_ret (v := .agg #[.int .i64 0, .bool false, .bool true]) (by simp [results, Tryz.results154, go_sem]) rfl ⟨rfl, (Fr.refl _).alloc _⟩
theorem of_other (t : Int) (h1 : t ≠ 1) (h5 : t ≠ 5) (h2 : t ≠ 2) (h3 : t ≠ 3) (h4 : t ≠ 4) (h21 : t ≠ 21) (h6 : t ≠ 6) (h7 : t ≠ 7) (h27 : t ≠ 27) (h9 : t ≠ 9) (h10 : t ≠ 10) (h15 : t ≠ 15) (w : World) :
    Calls Tryz.prog 154 #[.int .i64 t] w fun e w' => e = .returned (.agg #[.int .i64 0, .bool false, .bool false]) ∧ Fr w w' := by
  go_enter Tryz.func154, Tryz.ntmps154
  go_wp2
  exact bodyPost_ret (v := .agg #[.int .i64 0, .bool false, .bool false]) (by simp [results, Tryz.results154, go_sem]) rfl ⟨rfl, (Fr.refl _).alloc _⟩

theorem of_any (t : Int) (w : World) : Calls Tryz.prog 154 #[.int .i64 t] w fun e w' => e = .returned (.agg #[.int .i64 (szOf t), .bool (sgOf t), .bool (isOf t)]) ∧ Fr w w' := by
  by_cases h1 : t = 1
  · subst h1; exact of_1 w
  by_cases h5 : t = 5
  · subst h5; exact of_5 w
  by_cases h2 : t = 2
  · subst h2; exact of_2 w
  by_cases h3 : t = 3
  · subst h3; exact of_3 w
  by_cases h4 : t = 4
  · subst h4; exact of_4 w
  by_cases h21 : t = 21
  · subst h21; exact of_21 w
  by_cases h6 : t = 6
  · subst h6; exact of_6 w
  by_cases h7 : t = 7
  · subst h7; exact of_7 w
  by_cases h27 : t = 27
  · subst h27; exact of_27 w
  by_cases h9 : t = 9
  · subst h9; exact of_9 w
  by_cases h10 : t = 10
  · subst h10; exact of_10 w
  by_cases h15 : t = 15
  · subst h15; exact of_15 w
  have e1 : szOf t = 0 := by simp [szOf, *]
  have e2 : sgOf t = false := by simp [sgOf, *]
  have e3 : isOf t = false := by simp [isOf, *]
  rw [e1, e2, e3]
  exact of_other t h1 h5 h2 h3 h4 h21 h6 h7 h27 h9 h10 h15 w

theorem fits_1t (i : Bool) (n : Int) (h0 : 0 ≤ n) (hn : n ≤ 18446744073709551615) (w : World) :
    Calls Tryz.prog 196 #[.agg #[.int .i64 1, .bool true, .bool i], .int .u64 n] w fun e w' => e = .returned (.bool (fitsV 1 true n)) ∧ Fr w w' := by
  go_enter Tryz.func196, Tryz.ntmps196
  go_wp2
  go_ret
  refine ⟨ret_bool ?_, by (repeat (with_reducible first | exact Fr.refl _ | assumption | refine Fr.alloc ?_ _ | refine Fr.drew ?_ | refine Fr.drewN ?_ _ | refine Fr.set ?_ (by first | (simp; done) | (simp; omega)) _ | refine Fr.trans ?_ (by assumption)))⟩
  show _ = decide (n < 128 ∨ 18446744073709551616 - 128 ≤ n)
  simp only [IntKind.wrap_u64, wrap64]
  rw [Bool.eq_iff_iff]
  simp
  omega
theorem fits_1f (i : Bool) (n : Int) (h0 : 0 ≤ n) (hn : n ≤ 18446744073709551615) (w : World) :
    Calls Tryz.prog 196 #[.agg #[.int .i64 1, .bool false, .bool i], .int .u64 n] w fun e w' => e = .returned (.bool (fitsV 1 false n)) ∧ Fr w w' := by
  go_enter Tryz.func196, Tryz.ntmps196
  go_wp2
  go_ret
  refine ⟨ret_bool ?_, by (repeat (with_reducible first | exact Fr.refl _ | assumption | refine Fr.alloc ?_ _ | refine Fr.drew ?_ | refine Fr.drewN ?_ _ | refine Fr.set ?_ (by first | (simp; done) | (simp; omega)) _ | refine Fr.trans ?_ (by assumption)))⟩
  show _ = decide (n < 256)
  simp only [IntKind.wrap_u64]
  rw [Bool.eq_iff_iff]
  simp
  omega
theorem fits_2t (i : Bool) (n : Int) (h0 : 0 ≤ n) (hn : n ≤ 18446744073709551615) (w : World) :
    Calls Tryz.prog 196 #[.agg #[.int .i64 2, .bool true, .bool i], .int .u64 n] w fun e w' => e = .returned (.bool (fitsV 2 true n)) ∧ Fr w w' := by
  go_enter Tryz.func196, Tryz.ntmps196
  go_wp2
  go_ret
  refine ⟨ret_bool ?_, by (repeat (with_reducible first | exact Fr.refl _ | assumption | refine Fr.alloc ?_ _ | refine Fr.drew ?_ | refine Fr.drewN ?_ _ | refine Fr.set ?_ (by first | (simp; done) | (simp; omega)) _ | refine Fr.trans ?_ (by assumption)))⟩
  show _ = decide (n < 32768 ∨ 18446744073709551616 - 32768 ≤ n)
  simp only [IntKind.wrap_u64, wrap64]
  rw [Bool.eq_iff_iff]
  simp
  omega
theorem fits_2f (i : Bool) (n : Int) (h0 : 0 ≤ n) (hn : n ≤ 18446744073709551615) (w : World) :
    Calls Tryz.prog 196 #[.agg #[.int .i64 2, .bool false, .bool i], .int .u64 n] w fun e w' => e = .returned (.bool (fitsV 2 false n)) ∧ Fr w w' := by
  go_enter Tryz.func196, Tryz.ntmps196
  go_wp2
  go_ret
  refine ⟨ret_bool ?_, by (repeat (with_reducible first | exact Fr.refl _ | assumption | refine Fr.alloc ?_ _ | refine Fr.drew ?_ | refine Fr.drewN ?_ _ | refine Fr.set ?_ (by first | (simp; done) | (simp; omega)) _ | refine Fr.trans ?_ (by assumption)))⟩
  show _ = decide (n < 65536)
  simp only [IntKind.wrap_u64]
  rw [Bool.eq_iff_iff]
  simp
  omega
theorem fits_4t (i : Bool) (n : Int) (h0 : 0 ≤ n) (hn : n ≤ 18446744073709551615) (w : World) :
    Calls Tryz.prog 196 #[.agg #[.int .i64 4, .bool true, .bool i], .int .u64 n] w fun e w' => e = .returned (.bool (fitsV 4 true n)) ∧ Fr w w' := by
  go_enter Tryz.func196, Tryz.ntmps196
  go_wp2
  go_ret
  refine ⟨ret_bool ?_, by (repeat (with_reducible first | exact Fr.refl _ | assumption | refine Fr.alloc ?_ _ | refine Fr.drew ?_ | refine Fr.drewN ?_ _ | refine Fr.set ?_ (by first | (simp; done) | (simp; omega)) _ | refine Fr.trans ?_ (by assumption)))⟩
  show _ = decide (n < 2147483648 ∨ 18446744073709551616 - 2147483648 ≤ n)
  simp only [IntKind.wrap_u64, wrap64]
  rw [Bool.eq_iff_iff]
  simp
  omega
theorem fits_4f (i : Bool) (n : Int) (h0 : 0 ≤ n) (hn : n ≤ 18446744073709551615) (w : World) :
    Calls Tryz.prog 196 #[.agg #[.int .i64 4, .bool false, .bool i], .int .u64 n] w fun e w' => e = .returned (.bool (fitsV 4 false n)) ∧ Fr w w' := by
  go_enter Tryz.func196, Tryz.ntmps196
  go_wp2
  go_ret
  refine ⟨ret_bool ?_, by (repeat (with_reducible first | exact Fr.refl _ | assumption | refine Fr.alloc ?_ _ | refine Fr.drew ?_ | refine Fr.drewN ?_ _ | refine Fr.set ?_ (by first | (simp; done) | (simp; omega)) _ | refine Fr.trans ?_ (by assumption)))⟩
  show _ = decide (n < 4294967296)
  simp only [IntKind.wrap_u64]
  rw [Bool.eq_iff_iff]
  simp
  omega
theorem fits_8t (i : Bool) (n : Int) (h0 : 0 ≤ n) (hn : n ≤ 18446744073709551615) (w : World) :
    Calls Tryz.prog 196 #[.agg #[.int .i64 8, .bool true, .bool i], .int .u64 n] w fun e w' => e = .returned (.bool (fitsV 8 true n)) ∧ Fr w w' := by
  go_enter Tryz.func196, Tryz.ntmps196
  go_wp2
  go_ret
  refine ⟨ret_bool ?_, by (repeat (with_reducible first | exact Fr.refl _ | assumption | refine Fr.alloc ?_ _ | refine Fr.drew ?_ | refine Fr.drewN ?_ _ | refine Fr.set ?_ (by first | (simp; done) | (simp; omega)) _ | refine Fr.trans ?_ (by assumption)))⟩
  show _ = decide (n < 9223372036854775808 ∨ 18446744073709551616 - 9223372036854775808 ≤ n)
  simp only [IntKind.wrap_u64, wrap64]
  rw [Bool.eq_iff_iff]
  simp
  omega
theorem fits_8f (i : Bool) (n : Int) (h0 : 0 ≤ n) (hn : n ≤ 18446744073709551615) (w : World) :
    Calls Tryz.prog 196 #[.agg #[.int .i64 8, .bool false, .bool i], .int .u64 n] w fun e w' => e = .returned (.bool (fitsV 8 false n)) ∧ Fr w w' := by
  go_enter Tryz.func196, Tryz.ntmps196
  go_wp2
  go_ret
  refine ⟨ret_bool ?_, by (repeat (with_reducible first | exact Fr.refl _ | assumption | refine Fr.alloc ?_ _ | refine Fr.drew ?_ | refine Fr.drewN ?_ _ | refine Fr.set ?_ (by first | (simp; done) | (simp; omega)) _ | refine Fr.trans ?_ (by assumption)))⟩
  show _ = decide (n < 18446744073709551616)
  (try simp only [IntKind.wrap_u64])
  rw [Bool.eq_iff_iff]
  simp
  omega
theorem fits_any (s : Int) (g i : Bool) (n : Int) (hs : s = 1 ∨ s = 2 ∨ s = 4 ∨ s = 8) (h0 : 0 ≤ n) (hn : n ≤ 18446744073709551615) (w : World) :
    Calls Tryz.prog 196 #[.agg #[.int .i64 s, .bool g, .bool i], .int .u64 n] w fun e w' => e = .returned (.bool (fitsV s g n)) ∧ Fr w w' := by
  rcases hs with rfl | rfl | rfl | rfl <;> cases g
  · exact fits_1f i n h0 hn w
  · exact fits_1t i n h0 hn w
  · exact fits_2f i n h0 hn w
  · exact fits_2t i n h0 hn w
  · exact fits_4f i n h0 hn w
  · exact fits_4t i n h0 hn w
  · exact fits_8f i n h0 hn w
  · exact fits_8t i n h0 hn w

/-- types.Size. -/
theorem tsize_any (t : Int) (w : World) : Calls Tryz.prog 159 #[.int .i64 t] w fun e w' => e = .returned (.tuple #[.int .i64 (szOf t), .bool (decide (0 < szOf t))]) ∧ Fr w w' := by
  have H := of_any t
  go_enter Tryz.func159, Tryz.ntmps159
  go_wp2_with (first | (go_at_call 154; refine (H _).mono ?_; rintro e w1 ⟨rfl, hF1⟩; have hz1 := hF1.size; (try simp at hz1); have hc1 := hF1.cells; have hf1 := hF1.froz))
  go_quiet (fail)
  go_wp2
  go_ret2
  exact ⟨rfl, by (repeat (with_reducible first | exact Fr.refl _ | assumption | refine Fr.alloc ?_ _ | refine Fr.drew ?_ | refine Fr.drewN ?_ _ | refine Fr.set ?_ (by first | (simp; done) | (simp; omega)) _ | refine Fr.trans ?_ (by assumption)))⟩

end Go.Proofs.YtmllpkpdfhniaaaGreat
