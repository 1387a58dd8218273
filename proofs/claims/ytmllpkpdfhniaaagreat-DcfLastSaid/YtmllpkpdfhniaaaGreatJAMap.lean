/- Maps from places to bools that a call makes: looking a place up, and laying one in. -/
import Derived.Test.YtmllpkpdfhniaaaGreatJAOdB
import Derived.Laws.StructEq
set_option linter.unusedVariables false
set_option linter.unusedSimpArgs false
namespace Go.Proofs.YtmllpkpdfhniaaaGreat
open Go.RowKit

def plV (p : Int × Int) : Value := .agg #[.int .u16 p.1, .int .u8 p.2]
/-- The map at block b has these places, each with true. -/
def HasMap (w : World) (b : Nat) (ks : List (Int × Int)) : Prop := ∃ es clock, w.heap[b]? = some (.map es clock) ∧ es.toList.map (fun e => (e.key, e.val)) = ks.map fun k => (plV k, .bool true)

theorem HasMap.fr {w w' : World} {b : Nat} {ks : List (Int × Int)} (h : HasMap w b ks) (hf : Fr w w') : HasMap w' b ks := by
  obtain ⟨es, c, hb, he⟩ := h
  exact ⟨es, c, hf.at_ hb, he⟩
theorem HasMap.lt {w : World} {b : Nat} {ks : List (Int × Int)} (h : HasMap w b ks) : b < w.heap.size := by
  obtain ⟨es, c, hb, he⟩ := h
  exact (Array.getElem?_eq_some_iff.1 hb).1
theorem HasMap.made (w : World) : HasMap (w.alloc (.map #[] 0)) w.heap.size [] := ⟨#[], 0, heap_alloc_new w _, rfl⟩

/-- The world in which block b is this object. -/
def setB (w : World) (b : Nat) (o : Obj) : World := { w with heap := w.heap.modify b fun _ => o }
theorem setB_at (w : World) (b : Nat) (o : Obj) (h : b < w.heap.size) : (setB w b o).heap[b]? = some o := by
  simp only [setB, Array.getElem?_modify, if_pos]
  rw [Array.getElem?_eq_getElem h]
  rfl
theorem setB_far (w : World) (b k : Nat) (o : Obj) (h : k ≠ b) : (setB w b o).heap[k]? = w.heap[k]? := by
  simp only [setB, Array.getElem?_modify]
  rw [if_neg (fun e => h e.symm)]
theorem setB_size (w : World) (b : Nat) (o : Obj) : (setB w b o).heap.size = w.heap.size := by simp [setB]
theorem fr_setB {w w' : World} (h : Fr w w') {b : Nat} (o : Obj) (hb : w.heap.size ≤ b) : Fr w (setB w' b o) :=
  ⟨h.os, h.tape, h.output, by rw [setB_size]; exact h.size, fun k hk => (setB_far w' b k o (by omega)).trans (h.block k hk)⟩

theorem stays (x y : Int) (w : World) : (Instr.keyThatStays (plV (x, y)) (plV (x, y))).run Tryz.prog w = .ok (plV (x, y)) w := by
  have h : Instr.sameBits 10000 (plV (x, y)) (plV (x, y)) = true := by
    unfold plV
    rw [show (10000 : Nat) = 9999 + 1 from rfl]
    unfold Instr.sameBits
    simp
    constructor <;> (rw [show (9999 : Nat) = 9998 + 1 from rfl]; unfold Instr.sameBits; simp)
  unfold Instr.keyThatStays
  rw [if_pos h]
  rfl
theorem zero_bool (w : World) : (zeroValue 4).run Tryz.prog w = .ok (.bool false) w := by kernel_rfl

theorem eq_plO (w : World) (a b : Int × Int) : (Op.equal 216 (plV a) (plV b)).run Tryz.prog w = .ok (a == b) w := by
  obtain ⟨a1, a2⟩ := a
  obtain ⟨b1, b2⟩ := b
  unfold Op.equal Op.maxDepth plV
  rw [run_equalIn_agg w 9999 216 _ _ (by simp [Program.fieldsOf, Tryz.underlying216]) (by kernel_rfl)]
  simp only [Program.fieldsOf, Tryz.underlying216]
  simp [go_sem, Op.eqFields, Tryz.underlying41, Tryz.underlying5, Result.andThen]
  by_cases h1 : a1 = b1 <;> by_cases h2 : a2 = b2 <;> simp [h1, h2]
theorem chk_plO (w : World) (a1 a2 : Int) (e : Bool) : (Instr.checkKey e 10000 216 (plV (a1, a2))).run Tryz.prog w = .ok () w := by kernel_rfl
theorem ask_plO (w : World) (p : Int × Int) : ∀ (es : List MapEntry) (ks : List (Int × Int)) (i : Nat), es.map (fun e => (e.key, e.val)) = ks.map (fun k => (plV k, Value.bool true)) →
    (Instr.findAsking 216 (plV p) es i).run Tryz.prog w = .ok ((ks.findIdx? (fun k => p == k)).map fun j => (i + j, Value.bool true)) w
  | [], [], i, _ => by simp [Instr.findAsking]
  | [], k :: ks, i, h => by simp at h
  | e :: es, [], i, h => by simp at h
  | e :: es, k :: ks, i, h => by
    simp only [List.map_cons, List.cons.injEq, Prod.mk.injEq] at h
    obtain ⟨⟨hk, hv⟩, ht⟩ := h
    unfold Instr.findAsking
    simp only [Sem.run_bind, hk, eq_plO, Result.andThen_ok, List.findIdx?_cons]
    by_cases hp : p = k
    · subst hp
      simp [hv, Sem.run_pure]
    · have hb : (p == k) = false := by simpa using hp
      simp only [hb, Bool.false_eq_true, if_false]
      rw [ask_plO w p es ks (i + 1) ht]
      congr 1
      cases ks.findIdx? (fun k => p == k) <;> simp
      omega
theorem find_plO (w : World) (p : Int × Int) (es : List MapEntry) (ks : List (Int × Int)) (h : es.map (fun e => (e.key, e.val)) = ks.map (fun k => (plV k, Value.bool true))) :
    (Instr.findKey 216 (plV p) es).run Tryz.prog w = .ok ((ks.findIdx? (fun k => p == k)).map fun j => (j, Value.bool true)) w := by
  unfold Instr.findKey
  simp only [Sem.run_bind, run_underlying Tryz.underlying216, Result.andThen_ok]
  cases es with
  | nil =>
    cases ks with
    | nil => simp [Instr.findNow, Sem.run_pure]
    | cons k ks => simp at h
  | cons e es =>
    simp only [Instr.findNow, Instr.sameNow]
    have := ask_plO w p (e :: es) ks 0 h
    simpa using this
theorem look_plO {w : World} {b : Nat} {ks : List (Int × Int)} (h : HasMap w b ks) (x y : Int) :
    (Instr.lookup 262 (.map (some b)) (.agg #[.int .u16 x, .int .u8 y]) false).run Tryz.prog w = .ok (.bool (decide ((x, y) ∈ ks))) w := by
  obtain ⟨es, c, hb, he⟩ := h
  have hf := find_plO w (x, y) es.toList ks he
  have hc := chk_plO w x y es.isEmpty
  unfold plV at hf hc
  dsimp only at hf hc
  unfold Instr.lookup
  simp only [Sem.run_bind, run_underlying Tryz.underlying262, Result.andThen_ok, getObj, hb, hc, hf, Sem.run_pure, Sem.run]
  cases hi : ks.findIdx? (fun k => (x, y) == k) with
  | none =>
    have hn : (x, y) ∉ ks := by
      rw [List.findIdx?_eq_none_iff] at hi
      intro hm
      have := hi _ hm
      simp at this
    simp [hn, zero_bool, Sem.run_bind, Sem.run_pure]
  | some j =>
    have hm : (x, y) ∈ ks := by
      rw [List.findIdx?_eq_some_iff_getElem] at hi
      obtain ⟨hj, hp, _⟩ := hi
      have : (x, y) = ks[j] := by simpa using hp
      rw [this]; exact List.getElem_mem _
    simp [hm, Sem.run_bind, Sem.run_pure]
theorem upd_plO {w : World} {b : Nat} {ks : List (Int × Int)} (h : HasMap w b ks) (x y : Int) :
    ∃ es c, (Instr.mapUpdate 262 (.map (some b)) (.agg #[.int .u16 x, .int .u8 y]) (.bool true)).run Tryz.prog w = .ok () (setB w b (.map es c)) ∧ HasMap (setB w b (.map es c)) b (if (x, y) ∈ ks then ks else ks ++ [(x, y)]) := by
  have hlt := h.lt
  obtain ⟨es, c, hb, he⟩ := h
  have hf := find_plO w (x, y) es.toList ks he
  have hc := chk_plO w x y false
  have hst := stays x y w
  unfold plV at hf hc hst
  dsimp only at hf hc hst
  cases hi : ks.findIdx? (fun k => (x, y) == k) with
  | none =>
    have hn : (x, y) ∉ ks := by
      rw [List.findIdx?_eq_none_iff] at hi
      intro hm
      have := hi _ hm
      simp at this
    rw [hi] at hf
    refine ⟨es.push ⟨plV (x, y), .bool true, c⟩, c + 1, ?_, ?_⟩
    · unfold Instr.mapUpdate
      simp only [Sem.run_bind, run_underlying Tryz.underlying262, Result.andThen_ok, getObj, hb, hc, hf, Sem.run_pure, Sem.run, Option.map_none, setObj]
      rfl
    · refine ⟨_, _, setB_at w b _ hlt, ?_⟩
      rw [if_neg hn]
      simp [he]
  | some j =>
    have hj0 := hi
    rw [List.findIdx?_eq_some_iff_getElem] at hi
    obtain ⟨hj, hp, _⟩ := hi
    have hxy : (x, y) = ks[j] := by simpa using hp
    have hm : (x, y) ∈ ks := by rw [hxy]; exact List.getElem_mem _
    rw [hj0] at hf
    have hlen : es.size = ks.length := by have := congrArg List.length he; simpa using this
    have hej : es.toList[j]? = some (es[j]'(by omega)) := by rw [List.getElem?_eq_getElem (by simpa using (by omega : j < es.size))]; simp
    have hkv : ((es[j]'(by omega)).key, (es[j]'(by omega)).val) = (plV (x, y), Value.bool true) := by
      have h1 : (es.toList.map (fun e => (e.key, e.val)))[j]? = (ks.map (fun k => (plV k, Value.bool true)))[j]? := by rw [he]
      rw [List.getElem?_map, List.getElem?_map, hej, List.getElem?_eq_getElem hj, ← hxy] at h1
      simpa using h1
    have hk : (es[j]'(by omega)).key = plV (x, y) := (Prod.mk.injEq _ _ _ _ ▸ hkv).1
    have hv : (es[j]'(by omega)).val = Value.bool true := (Prod.mk.injEq _ _ _ _ ▸ hkv).2
    refine ⟨es.modify j fun e => { e with key := plV (x, y), val := .bool true }, c, ?_, ?_⟩
    · have hk' : (Option.map (fun x => x.key) es[j]?).getD (Value.agg #[.int .u16 x, .int .u8 y]) = .agg #[.int .u16 x, .int .u8 y] := by
        rw [Array.getElem?_eq_getElem (by omega : j < es.size)]; simp [hk, plV]
      unfold Instr.mapUpdate
      simp only [Sem.run_bind, run_underlying Tryz.underlying262, Result.andThen_ok, getObj, hb, hc, hf, Sem.run_pure, Sem.run, Option.map_some, setObj, hk', hst]
      rfl
    · refine ⟨_, _, setB_at w b _ hlt, ?_⟩
      rw [if_pos hm, ← he]
      apply List.ext_getElem?
      intro i
      simp only [List.getElem?_map, Array.getElem?_toList, Array.getElem?_modify]
      by_cases hij : j = i
      · subst hij
        simp [Array.getElem?_eq_getElem (by omega : j < es.size), hk, hv]
      · simp [hij]

theorem eq_plD (w : World) (a b : Int × Int) : (Op.equal 234 (plV a) (plV b)).run Tryz.prog w = .ok (a == b) w := by
  obtain ⟨a1, a2⟩ := a
  obtain ⟨b1, b2⟩ := b
  unfold Op.equal Op.maxDepth plV
  rw [run_equalIn_agg w 9999 234 _ _ (by simp [Program.fieldsOf, Tryz.underlying234]) (by kernel_rfl)]
  simp only [Program.fieldsOf, Tryz.underlying234]
  simp [go_sem, Op.eqFields, Tryz.underlying41, Tryz.underlying5, Result.andThen]
  by_cases h1 : a1 = b1 <;> by_cases h2 : a2 = b2 <;> simp [h1, h2]
theorem chk_plD (w : World) (a1 a2 : Int) (e : Bool) : (Instr.checkKey e 10000 234 (plV (a1, a2))).run Tryz.prog w = .ok () w := by kernel_rfl
theorem ask_plD (w : World) (p : Int × Int) : ∀ (es : List MapEntry) (ks : List (Int × Int)) (i : Nat), es.map (fun e => (e.key, e.val)) = ks.map (fun k => (plV k, Value.bool true)) →
    (Instr.findAsking 234 (plV p) es i).run Tryz.prog w = .ok ((ks.findIdx? (fun k => p == k)).map fun j => (i + j, Value.bool true)) w
  | [], [], i, _ => by simp [Instr.findAsking]
  | [], k :: ks, i, h => by simp at h
  | e :: es, [], i, h => by simp at h
  | e :: es, k :: ks, i, h => by
    simp only [List.map_cons, List.cons.injEq, Prod.mk.injEq] at h
    obtain ⟨⟨hk, hv⟩, ht⟩ := h
    unfold Instr.findAsking
    simp only [Sem.run_bind, hk, eq_plD, Result.andThen_ok, List.findIdx?_cons]
    by_cases hp : p = k
    · subst hp
      simp [hv, Sem.run_pure]
    · have hb : (p == k) = false := by simpa using hp
      simp only [hb, Bool.false_eq_true, if_false]
      rw [ask_plD w p es ks (i + 1) ht]
      congr 1
      cases ks.findIdx? (fun k => p == k) <;> simp
      omega
theorem find_plD (w : World) (p : Int × Int) (es : List MapEntry) (ks : List (Int × Int)) (h : es.map (fun e => (e.key, e.val)) = ks.map (fun k => (plV k, Value.bool true))) :
    (Instr.findKey 234 (plV p) es).run Tryz.prog w = .ok ((ks.findIdx? (fun k => p == k)).map fun j => (j, Value.bool true)) w := by
  unfold Instr.findKey
  simp only [Sem.run_bind, run_underlying Tryz.underlying234, Result.andThen_ok]
  cases es with
  | nil =>
    cases ks with
    | nil => simp [Instr.findNow, Sem.run_pure]
    | cons k ks => simp at h
  | cons e es =>
    simp only [Instr.findNow, Instr.sameNow]
    have := ask_plD w p (e :: es) ks 0 h
    simpa using this
theorem look_plD {w : World} {b : Nat} {ks : List (Int × Int)} (h : HasMap w b ks) (x y : Int) :
    (Instr.lookup 229 (.map (some b)) (.agg #[.int .u16 x, .int .u8 y]) false).run Tryz.prog w = .ok (.bool (decide ((x, y) ∈ ks))) w := by
  obtain ⟨es, c, hb, he⟩ := h
  have hf := find_plD w (x, y) es.toList ks he
  have hc := chk_plD w x y es.isEmpty
  unfold plV at hf hc
  dsimp only at hf hc
  unfold Instr.lookup
  simp only [Sem.run_bind, run_underlying Tryz.underlying229, Result.andThen_ok, getObj, hb, hc, hf, Sem.run_pure, Sem.run]
  cases hi : ks.findIdx? (fun k => (x, y) == k) with
  | none =>
    have hn : (x, y) ∉ ks := by
      rw [List.findIdx?_eq_none_iff] at hi
      intro hm
      have := hi _ hm
      simp at this
    simp [hn, zero_bool, Sem.run_bind, Sem.run_pure]
  | some j =>
    have hm : (x, y) ∈ ks := by
      rw [List.findIdx?_eq_some_iff_getElem] at hi
      obtain ⟨hj, hp, _⟩ := hi
      have : (x, y) = ks[j] := by simpa using hp
      rw [this]; exact List.getElem_mem _
    simp [hm, Sem.run_bind, Sem.run_pure]
theorem upd_plD {w : World} {b : Nat} {ks : List (Int × Int)} (h : HasMap w b ks) (x y : Int) :
    ∃ es c, (Instr.mapUpdate 229 (.map (some b)) (.agg #[.int .u16 x, .int .u8 y]) (.bool true)).run Tryz.prog w = .ok () (setB w b (.map es c)) ∧ HasMap (setB w b (.map es c)) b (if (x, y) ∈ ks then ks else ks ++ [(x, y)]) := by
  have hlt := h.lt
  obtain ⟨es, c, hb, he⟩ := h
  have hf := find_plD w (x, y) es.toList ks he
  have hc := chk_plD w x y false
  have hst := stays x y w
  unfold plV at hf hc hst
  dsimp only at hf hc hst
  cases hi : ks.findIdx? (fun k => (x, y) == k) with
  | none =>
    have hn : (x, y) ∉ ks := by
      rw [List.findIdx?_eq_none_iff] at hi
      intro hm
      have := hi _ hm
      simp at this
    rw [hi] at hf
    refine ⟨es.push ⟨plV (x, y), .bool true, c⟩, c + 1, ?_, ?_⟩
    · unfold Instr.mapUpdate
      simp only [Sem.run_bind, run_underlying Tryz.underlying229, Result.andThen_ok, getObj, hb, hc, hf, Sem.run_pure, Sem.run, Option.map_none, setObj]
      rfl
    · refine ⟨_, _, setB_at w b _ hlt, ?_⟩
      rw [if_neg hn]
      simp [he]
  | some j =>
    have hj0 := hi
    rw [List.findIdx?_eq_some_iff_getElem] at hi
    obtain ⟨hj, hp, _⟩ := hi
    have hxy : (x, y) = ks[j] := by simpa using hp
    have hm : (x, y) ∈ ks := by rw [hxy]; exact List.getElem_mem _
    rw [hj0] at hf
    have hlen : es.size = ks.length := by have := congrArg List.length he; simpa using this
    have hej : es.toList[j]? = some (es[j]'(by omega)) := by rw [List.getElem?_eq_getElem (by simpa using (by omega : j < es.size))]; simp
    have hkv : ((es[j]'(by omega)).key, (es[j]'(by omega)).val) = (plV (x, y), Value.bool true) := by
      have h1 : (es.toList.map (fun e => (e.key, e.val)))[j]? = (ks.map (fun k => (plV k, Value.bool true)))[j]? := by rw [he]
      rw [List.getElem?_map, List.getElem?_map, hej, List.getElem?_eq_getElem hj, ← hxy] at h1
      simpa using h1
    have hk : (es[j]'(by omega)).key = plV (x, y) := (Prod.mk.injEq _ _ _ _ ▸ hkv).1
    have hv : (es[j]'(by omega)).val = Value.bool true := (Prod.mk.injEq _ _ _ _ ▸ hkv).2
    refine ⟨es.modify j fun e => { e with key := plV (x, y), val := .bool true }, c, ?_, ?_⟩
    · have hk' : (Option.map (fun x => x.key) es[j]?).getD (Value.agg #[.int .u16 x, .int .u8 y]) = .agg #[.int .u16 x, .int .u8 y] := by
        rw [Array.getElem?_eq_getElem (by omega : j < es.size)]; simp [hk, plV]
      unfold Instr.mapUpdate
      simp only [Sem.run_bind, run_underlying Tryz.underlying229, Result.andThen_ok, getObj, hb, hc, hf, Sem.run_pure, Sem.run, Option.map_some, setObj, hk', hst]
      rfl
    · refine ⟨_, _, setB_at w b _ hlt, ?_⟩
      rw [if_pos hm, ← he]
      apply List.ext_getElem?
      intro i
      simp only [List.getElem?_map, Array.getElem?_toList, Array.getElem?_modify]
      by_cases hij : j = i
      · subst hij
        simp [Array.getElem?_eq_getElem (by omega : j < es.size), hk, hv]
      · simp [hij]


end Go.Proofs.YtmllpkpdfhniaaaGreat
