/- Bytes of a number; slices of a call's own: how they live on. The program's types.Encode once more: the bytes lie in memory of its own. Rows of one's own at a lower base. -/
import Derived.Test.YtmllpkpdfhniaaaGreatJAWords
import Derived.Test.YtmllpkpdfhniaaaGreatJATyB
set_option linter.unusedVariables false
set_option linter.unusedSimpArgs false
namespace Go.Proofs.YtmllpkpdfhniaaaGreat
open Go.RowKit Go.Sort

/-- A byte of a number. -/
def by8 (n : Int) (k : Nat) : UInt8 := UInt8.ofNat (n.toNat / 256 ^ k)
theorem Rd.grown {w w' : World} {sz n : Nat} {v : Value} {cs : List Value} {row : Option Nat} (h : Rd w sz v n cs) (hg : w.grownBy w' row) (hne : ∀ g, v.ownBlock = some g → some g ≠ row) : Rd w' sz v n cs := by
  obtain ⟨hl, A, c, rfl, hn, hcap, h⟩ := h
  refine ⟨hl, A, c, rfl, hn, hcap, h.imp id ?_⟩
  rintro ⟨b, o, rfl, hb, hh⟩
  exact ⟨b, o, rfl, Nat.lt_of_lt_of_le hb hg.size, fun j u hu => (World.cell?_of_block (hg.block b hb (hne b rfl))).trans (hh j u hu)⟩
theorem by8_nat (n : Int) (k : Nat) : ((by8 n k).toNat : Int) = ((n.toNat / 256 ^ k % 256 : Nat) : Int) := by
  unfold by8
  congr 1
theorem wrap8 (n : Int) : IntKind.u8.wrap n = n % 256 := by
  simp [IntKind.wrap, IntKind.bits, IntKind.signed]
theorem heapOld (w : World) (o : Obj) (k : Nat) (h : k < w.heap.size) : (w.alloc o).heap[k]? = w.heap[k]? := heap_alloc_old w o h
theorem alloc2_new (w : World) (a b : Obj) : ((w.alloc a).alloc b).heap[w.heap.size + 1]? = some b := by
  have := heap_alloc_new (w.alloc a) b
  show ((w.alloc a).alloc b).heap[w.heap.size + 1]? = some b
  simpa using this
theorem alloc2_new' (w : World) (a b : Obj) : ((w.alloc a).alloc b).drew.heap[w.heap.size + 1]? = some b := alloc2_new w a b
theorem ownsRow_fr {w w' : World} {base : Nat} {e : TypeId} {sz : Nat} {v : Value} {n : Nat} {xs : List Value} (h : w.ownsRow base e sz v n xs) (hf : Fr w w') : w'.ownsRow base e sz v n xs := by
  refine ⟨h.1, h.2.imp id ?_⟩
  rintro ⟨g, cap, cur, hv, hlg, hg, r⟩
  exact ⟨g, cap, cur, hv, hlg, hf.at_ hg, r⟩
theorem OB.slice {w : World} {base : Nat} {v : Value} {l : List UInt8} (h : OB w base v l) : ∃ (A : Option Addr) (c : Nat), v = .slice A l.length c := by
  rcases h.2 with ⟨h1, h2⟩ | ⟨g, cap, cur, hv, _⟩
  · exact ⟨none, 0, by rw [h1, h2]⟩
  · exact ⟨_, _, hv⟩
theorem made_bytes {w : World} {base : Nat} (hb : base ≤ w.heap.size) : OB (w.alloc (.cells #[] 5)) base (.slice (some ⟨w.heap.size, 0, none⟩) 0 0) [] := World.ownsRow_made w #[] 0 hb (by simp [maxLen]) (by simp)
theorem made_bytes' {w : World} {base B : Nat} (hb : base ≤ w.heap.size) (hB : B = w.heap.size) : OB (w.alloc (.cells #[] 5)) base (.slice (some ⟨B, 0, none⟩) 0 0) [] := by
  subst hB
  exact made_bytes hb
theorem newsSet (w : World) (p : Addr) (u : Value) (o : Obj) : ((w.setCell p u).alloc o).heap[w.heap.size]? = some o := by
  have := heap_alloc_new (w.setCell p u) o
  simpa using this
theorem ownsRow_ty {w : World} {base : Nat} {e : TypeId} {sz : Nat} {v : Value} {n : Nat} {xs : List Value} (h : w.ownsRow base e sz v n xs) {g : Nat} (hg : v.ownBlock = some g) : ∃ cur, w.heap[g]? = some (.cells cur e (0, 0)) := by
  rcases h.2 with ⟨h1, _⟩ | ⟨g', cap, cur, hv, hlg, hgg, r⟩
  · rw [h1] at hg; simp [Value.ownBlock] at hg
  · rw [hv] at hg
    have : g' = g := by simpa [Value.ownBlock] using hg
    subst this
    exact ⟨cur, hgg⟩
theorem ownsRow_ne {w : World} {b1 b2 : Nat} {e1 e2 : TypeId} {s1 s2 : Nat} {v1 v2 : Value} {n1 n2 : Nat} {x1 x2 : List Value} (h1 : w.ownsRow b1 e1 s1 v1 n1 x1) (h2 : w.ownsRow b2 e2 s2 v2 n2 x2) (he : e1 ≠ e2) {g : Nat} (hg : v1.ownBlock = some g) : v2.ownBlock ≠ some g := fun hh => by
  obtain ⟨c1, k1⟩ := ownsRow_ty h1 hg
  obtain ⟨c2, k2⟩ := ownsRow_ty h2 hh
  rw [k1] at k2
  simp at k2
  exact he k2.2
theorem ownsRow_set {w : World} {base : Nat} {e : TypeId} {sz : Nat} {v : Value} {n : Nat} {xs : List Value} (h : w.ownsRow base e sz v n xs) (p : Addr) (u : Value) (hne : v.ownBlock ≠ some p.block) : (w.setCell p u).ownsRow base e sz v n xs := by
  refine ⟨h.1, h.2.imp id ?_⟩
  rintro ⟨g, cap, cur, hv, hlg, hg, r⟩
  refine ⟨g, cap, cur, hv, hlg, ?_, r⟩
  rw [heap_setCell_other _ _ _ _ (fun hh => hne (by rw [hv, ← hh]; rfl))]
  exact hg
/-- The slice's memory is newer than that world. -/
def newer (w : World) (v : Value) : Prop := ∀ g, v.ownBlock = some g → w.heap.size ≤ g
theorem newer_nil (w : World) (n c : Nat) : newer w (.slice none n c) := fun g h => by simp [Value.ownBlock] at h
theorem newer_at (w : World) (b n c : Nat) (h : w.heap.size ≤ b) : newer w (.slice (some ⟨b, 0, none⟩) n c) := fun g hg => by
  simp [Value.ownBlock] at hg
  omega
theorem leB_succ (n : Int) (k : Nat) : leB n (k + 1) = leB n k ++ [by8 n k] := by
  unfold leB by8
  rw [List.range_succ, List.map_append]
  rfl
theorem rd_byte (w : World) (x : Int) (y : UInt8) (h : x = (y.toNat : Int)) : Rd (w.alloc (.cells #[.int .u8 x] 5)) 1 (.slice (some ⟨w.heap.size, 0, none⟩) 1 1) 1 (bcs [y]) :=
  Rd.of_block (heap_alloc_new w _) (Nat.le_refl _) (by omega) (by simp [bcs]) (by subst h; exact List.prefix_refl _)

end Go.Proofs.YtmllpkpdfhniaaaGreat

namespace Go.Proofs.YtmllpkpdfhniaaaGreat
open Go.RowKit

/-- Bytes and a number are handed back, the bytes in memory of their own. -/
def RetF (r : Int) (l : List UInt8) (w : World) (e : Ending) (w' : World) : Prop := ∃ v, e = .returned (.tuple #[v, .int .i64 r]) ∧ RdB w' v l ∧ Fr w w' ∧ newer w v
theorem encN_err (t n : Int) (b : ByteArray) (c : Int) (hc : c ≠ 0) (HK : ∀ w, Calls Tryz.prog 153 #[.agg #[.int .i64 t, .int .u64 n, .string b]] w fun e w' => e = .returned (.int .i64 c) ∧ Fr w w') (w : World) :
    Calls Tryz.prog 99 #[.agg #[.int .i64 t, .int .u64 n, .string b]] w fun e w' => RetF c [] w e w' := by
  have hne := bne_true hc
  clear hc
  go_enter Tryz.func99, Tryz.ntmps99
  go_wp2_with (first | (go_at_call 153; refine (HK _).mono ?_; rintro e w1 ⟨rfl, hF1⟩; have hz1 := hF1.size; (try simp at hz1); (try (have hz1_0 : w.heap.size < w1.heap.size := (by omega))); have hc1 := hF1.cells; have hf1 := hF1.froz))
  go_ret2
  exact ⟨_, rfl, RdB.nil _, by (repeat (with_reducible first | exact Fr.refl _ | assumption | refine Fr.alloc ?_ _ | refine Fr.drew ?_ | refine Fr.drewN ?_ _ | refine Fr.set ?_ (by first | (simp; done) | (simp; omega)) _ | refine Fr.trans ?_ (by assumption))), newer_nil _ _ _⟩

theorem encN_str (t n : Int) (b : ByteArray) (hs : szOf t = 0) (hb : b.size ≤ 65536) (HK : ∀ w, Calls Tryz.prog 153 #[.agg #[.int .i64 t, .int .u64 n, .string b]] w fun e w' => e = .returned (.int .i64 0) ∧ Fr w w') (w : World) :
    Calls Tryz.prog 99 #[.agg #[.int .i64 t, .int .u64 n, .string b]] w fun e w' => RetF 0 b.data.toList w e w' := by
  have H := of_any t
  rw [hs] at H
  clear hs
  have hcv := fun W => Lib.run_convert_string_bytes (P := Tryz.prog) W 9 36 5 b Tryz.underlying9 Tryz.underlying36 Tryz.underlying5
  go_enter Tryz.func99, Tryz.ntmps99
  go_wp2_with (first | (go_at_call 153; refine (HK _).mono ?_; rintro e w1 ⟨rfl, hF1⟩; have hz1 := hF1.size; (try simp at hz1); (try (have hz1_0 : w.heap.size < w1.heap.size := (by omega))); have hc1 := hF1.cells; have hf1 := hF1.froz) | (go_at_call 154; refine (H _).mono ?_; rintro e w2 ⟨rfl, hF2⟩; have hz2 := hF2.size; (try simp at hz2); (try (have hz2_0 : w.heap.size < w2.heap.size := (by omega))); (try (have hz2_1 : w1.heap.size < w2.heap.size := (by omega))); have hc2 := hF2.cells; have hf2 := hF2.froz))
  go_ret2
  refine ⟨_, rfl, rd_bytes' _ _ b (by omega) (by simp), ?_, newer_at _ _ _ _ (by first | omega | (simp; omega))⟩
  refine Fr.trans ?_ (fr_bytes _ _ _)
  (repeat (with_reducible first | exact Fr.refl _ | assumption | refine Fr.alloc ?_ _ | refine Fr.drew ?_ | refine Fr.drewN ?_ _ | refine Fr.set ?_ (by first | (simp; done) | (simp; omega)) _ | refine Fr.trans ?_ (by assumption)))

set_option maxHeartbeats 1000000 in
theorem encN_1 (t n : Int) (b : ByteArray) (h0 : 0 ≤ n) (hn : n ≤ 18446744073709551615) (hs : szOf t = 1) (HK : ∀ w, Calls Tryz.prog 153 #[.agg #[.int .i64 t, .int .u64 n, .string b]] w fun e w' => e = .returned (.int .i64 0) ∧ Fr w w') (w : World) :
    Calls Tryz.prog 99 #[.agg #[.int .i64 t, .int .u64 n, .string b]] w fun e w' => RetF 0 (leB n 1) w e w' := by
  have H := of_any t
  rw [hs] at H
  clear hs
  have hmk : ∀ w, (Instr.makeSlice 36 (.int .i64 1) (.int .i64 1)).run Tryz.prog w = .ok (.slice (some ⟨w.heap.size, 0, none⟩) 1 1) (w.alloc (.cells #[.int .u8 0] 5)) := fun _ => by kernel_rfl
  go_enter Tryz.func99, Tryz.ntmps99
  go_wp2_with (first | (go_at_call 153; refine (HK _).mono ?_; rintro e w1 ⟨rfl, hF1⟩; have hz1 := hF1.size; (try simp at hz1); (try (have hz1_0 : w.heap.size < w1.heap.size := (by omega))); have hc1 := hF1.cells; have hf1 := hF1.froz) | (go_at_call 154; refine (H _).mono ?_; rintro e w2 ⟨rfl, hF2⟩; have hz2 := hF2.size; (try simp at hz2); (try (have hz2_0 : w.heap.size < w2.heap.size := (by omega))); (try (have hz2_1 : w1.heap.size < w2.heap.size := (by omega))); have hc2 := hF2.cells; have hf2 := hF2.froz))
  refine wp_loop_rounds 2 ?_
  iterate 2 (rw [rounds_succ]; go_wp2)
  go_ret2
  exact ⟨_, rfl, Rd.of_block (t := 5) (fr := (0, 0)) (by simpa using heap_alloc_new (World.alloc _ _) _) (Nat.le_refl _) (by omega) (by simp [bcs, leB]) (by rw [leB_bcs n h0]; exact ⟨[], by first | (simp [List.range, List.range.loop]; done) | (simp [List.range, List.range.loop]; omega)⟩), by (repeat (with_reducible first | exact Fr.refl _ | assumption | refine Fr.alloc ?_ _ | refine Fr.drew ?_ | refine Fr.drewN ?_ _ | refine Fr.set ?_ (by first | (simp; done) | (simp; omega)) _ | refine Fr.trans ?_ (by assumption))), newer_at _ _ _ _ (by first | omega | (simp; omega))⟩
set_option maxHeartbeats 1000000 in
theorem encN_2 (t n : Int) (b : ByteArray) (h0 : 0 ≤ n) (hn : n ≤ 18446744073709551615) (hs : szOf t = 2) (HK : ∀ w, Calls Tryz.prog 153 #[.agg #[.int .i64 t, .int .u64 n, .string b]] w fun e w' => e = .returned (.int .i64 0) ∧ Fr w w') (w : World) :
    Calls Tryz.prog 99 #[.agg #[.int .i64 t, .int .u64 n, .string b]] w fun e w' => RetF 0 (leB n 2) w e w' := by
  have H := of_any t
  rw [hs] at H
  clear hs
  have hmk : ∀ w, (Instr.makeSlice 36 (.int .i64 2) (.int .i64 2)).run Tryz.prog w = .ok (.slice (some ⟨w.heap.size, 0, none⟩) 2 2) (w.alloc (.cells #[.int .u8 0, .int .u8 0] 5)) := fun _ => by kernel_rfl
  go_enter Tryz.func99, Tryz.ntmps99
  go_wp2_with (first | (go_at_call 153; refine (HK _).mono ?_; rintro e w1 ⟨rfl, hF1⟩; have hz1 := hF1.size; (try simp at hz1); (try (have hz1_0 : w.heap.size < w1.heap.size := (by omega))); have hc1 := hF1.cells; have hf1 := hF1.froz) | (go_at_call 154; refine (H _).mono ?_; rintro e w2 ⟨rfl, hF2⟩; have hz2 := hF2.size; (try simp at hz2); (try (have hz2_0 : w.heap.size < w2.heap.size := (by omega))); (try (have hz2_1 : w1.heap.size < w2.heap.size := (by omega))); have hc2 := hF2.cells; have hf2 := hF2.froz))
  refine wp_loop_rounds 3 ?_
  iterate 3 (rw [rounds_succ]; go_wp2)
  go_ret2
  exact ⟨_, rfl, Rd.of_block (t := 5) (fr := (0, 0)) (by simpa using heap_alloc_new (World.alloc _ _) _) (Nat.le_refl _) (by omega) (by simp [bcs, leB]) (by rw [leB_bcs n h0]; exact ⟨[], by first | (simp [List.range, List.range.loop]; done) | (simp [List.range, List.range.loop]; omega)⟩), by (repeat (with_reducible first | exact Fr.refl _ | assumption | refine Fr.alloc ?_ _ | refine Fr.drew ?_ | refine Fr.drewN ?_ _ | refine Fr.set ?_ (by first | (simp; done) | (simp; omega)) _ | refine Fr.trans ?_ (by assumption))), newer_at _ _ _ _ (by first | omega | (simp; omega))⟩
set_option maxHeartbeats 1000000 in
theorem encN_4 (t n : Int) (b : ByteArray) (h0 : 0 ≤ n) (hn : n ≤ 18446744073709551615) (hs : szOf t = 4) (HK : ∀ w, Calls Tryz.prog 153 #[.agg #[.int .i64 t, .int .u64 n, .string b]] w fun e w' => e = .returned (.int .i64 0) ∧ Fr w w') (w : World) :
    Calls Tryz.prog 99 #[.agg #[.int .i64 t, .int .u64 n, .string b]] w fun e w' => RetF 0 (leB n 4) w e w' := by
  have H := of_any t
  rw [hs] at H
  clear hs
  have hmk : ∀ w, (Instr.makeSlice 36 (.int .i64 4) (.int .i64 4)).run Tryz.prog w = .ok (.slice (some ⟨w.heap.size, 0, none⟩) 4 4) (w.alloc (.cells #[.int .u8 0, .int .u8 0, .int .u8 0, .int .u8 0] 5)) := fun _ => by kernel_rfl
  go_enter Tryz.func99, Tryz.ntmps99
  go_wp2_with (first | (go_at_call 153; refine (HK _).mono ?_; rintro e w1 ⟨rfl, hF1⟩; have hz1 := hF1.size; (try simp at hz1); (try (have hz1_0 : w.heap.size < w1.heap.size := (by omega))); have hc1 := hF1.cells; have hf1 := hF1.froz) | (go_at_call 154; refine (H _).mono ?_; rintro e w2 ⟨rfl, hF2⟩; have hz2 := hF2.size; (try simp at hz2); (try (have hz2_0 : w.heap.size < w2.heap.size := (by omega))); (try (have hz2_1 : w1.heap.size < w2.heap.size := (by omega))); have hc2 := hF2.cells; have hf2 := hF2.froz))
  refine wp_loop_rounds 5 ?_
  iterate 5 (rw [rounds_succ]; go_wp2)
  go_ret2
  exact ⟨_, rfl, Rd.of_block (t := 5) (fr := (0, 0)) (by simpa using heap_alloc_new (World.alloc _ _) _) (Nat.le_refl _) (by omega) (by simp [bcs, leB]) (by rw [leB_bcs n h0]; exact ⟨[], by first | (simp [List.range, List.range.loop]; done) | (simp [List.range, List.range.loop]; omega)⟩), by (repeat (with_reducible first | exact Fr.refl _ | assumption | refine Fr.alloc ?_ _ | refine Fr.drew ?_ | refine Fr.drewN ?_ _ | refine Fr.set ?_ (by first | (simp; done) | (simp; omega)) _ | refine Fr.trans ?_ (by assumption))), newer_at _ _ _ _ (by first | omega | (simp; omega))⟩
set_option maxHeartbeats 1000000 in
theorem encN_8 (t n : Int) (b : ByteArray) (h0 : 0 ≤ n) (hn : n ≤ 18446744073709551615) (hs : szOf t = 8) (HK : ∀ w, Calls Tryz.prog 153 #[.agg #[.int .i64 t, .int .u64 n, .string b]] w fun e w' => e = .returned (.int .i64 0) ∧ Fr w w') (w : World) :
    Calls Tryz.prog 99 #[.agg #[.int .i64 t, .int .u64 n, .string b]] w fun e w' => RetF 0 (leB n 8) w e w' := by
  have H := of_any t
  rw [hs] at H
  clear hs
  have hmk : ∀ w, (Instr.makeSlice 36 (.int .i64 8) (.int .i64 8)).run Tryz.prog w = .ok (.slice (some ⟨w.heap.size, 0, none⟩) 8 8) (w.alloc (.cells #[.int .u8 0, .int .u8 0, .int .u8 0, .int .u8 0, .int .u8 0, .int .u8 0, .int .u8 0, .int .u8 0] 5)) := fun _ => by kernel_rfl
  go_enter Tryz.func99, Tryz.ntmps99
  go_wp2_with (first | (go_at_call 153; refine (HK _).mono ?_; rintro e w1 ⟨rfl, hF1⟩; have hz1 := hF1.size; (try simp at hz1); (try (have hz1_0 : w.heap.size < w1.heap.size := (by omega))); have hc1 := hF1.cells; have hf1 := hF1.froz) | (go_at_call 154; refine (H _).mono ?_; rintro e w2 ⟨rfl, hF2⟩; have hz2 := hF2.size; (try simp at hz2); (try (have hz2_0 : w.heap.size < w2.heap.size := (by omega))); (try (have hz2_1 : w1.heap.size < w2.heap.size := (by omega))); have hc2 := hF2.cells; have hf2 := hF2.froz))
  refine wp_loop_rounds 9 ?_
  iterate 9 (rw [rounds_succ]; go_wp2)
  go_ret2
  exact ⟨_, rfl, Rd.of_block (t := 5) (fr := (0, 0)) (by simpa using heap_alloc_new (World.alloc _ _) _) (Nat.le_refl _) (by omega) (by simp [bcs, leB]) (by rw [leB_bcs n h0]; exact ⟨[], by first | (simp [List.range, List.range.loop]; done) | (simp [List.range, List.range.loop]; omega)⟩), by (repeat (with_reducible first | exact Fr.refl _ | assumption | refine Fr.alloc ?_ _ | refine Fr.drew ?_ | refine Fr.drewN ?_ _ | refine Fr.set ?_ (by first | (simp; done) | (simp; omega)) _ | refine Fr.trans ?_ (by assumption))), newer_at _ _ _ _ (by first | omega | (simp; omega))⟩

/-- types.Encode: a value's bytes. -/
theorem encode_new (v : V) (hw : v.wf) (w : World) : Calls Tryz.prog 99 #[v.agg] w fun e w' => RetF (chkV v) (if chkV v = 0 then encV v else []) w e w' := by
  have HK := check_any v hw
  by_cases hc : chkV v = 0
  · rw [if_pos hc, hc]
    rw [hc] at HK
    obtain ⟨t, n, b⟩ := v
    obtain ⟨h0, hn⟩ := hw
    unfold encV
    dsimp only at *
    by_cases hs : szOf t = 0
    · rw [if_pos hs]
      refine encN_str t n b hs ?_ HK w
      unfold chkV at hc
      dsimp only at hc
      rcases Nat.lt_or_ge 65536 b.size with hb | hb
      · exfalso
        split at hc
        · cases hc
        · rw [if_pos ⟨hs, by omega⟩] at hc; cases hc
      · exact hb
    · rw [if_neg hs]
      rcases (szOf_cases t).resolve_left hs with h | h | h | h <;> simp only [h]
      · exact encN_1 t n b h0 hn h HK w
      · exact encN_2 t n b h0 hn h HK w
      · exact encN_4 t n b h0 hn h HK w
      · exact encN_8 t n b h0 hn h HK w
  · rw [if_neg hc]
    obtain ⟨t, n, b⟩ := v
    exact encN_err t n b _ hc HK w

end Go.Proofs.YtmllpkpdfhniaaaGreat

namespace Go.Proofs.YtmllpkpdfhniaaaGreat
open Go.RowKit Go.Sort

theorem ownsRow_mono {w : World} {b1 b2 : Nat} {e : TypeId} {sz : Nat} {v : Value} {n : Nat} {xs : List Value} (h : w.ownsRow b1 e sz v n xs) (hb : b2 ≤ b1) : w.ownsRow b2 e sz v n xs := by
  refine ⟨h.1, h.2.imp id ?_⟩
  rintro ⟨g, cap, cur, hv, hlg, r⟩
  exact ⟨g, cap, cur, hv, by omega, r⟩
theorem OB.mono {w : World} {b1 b2 : Nat} {v : Value} {l : List UInt8} (h : OB w b1 v l) (hb : b2 ≤ b1) : OB w b2 v l := by
  refine ⟨h.1, h.2.imp id ?_⟩
  rintro ⟨g, cap, cur, hv, hlg, r⟩
  exact ⟨g, cap, cur, hv, by omega, r⟩

end Go.Proofs.YtmllpkpdfhniaaaGreat
