/- The program's od: may, May, Write: their contracts. The program's od: Write: its contract. What a call may change. -/
import Derived.Test.YtmllpkpdfhniaaaGreatJAOdM
set_option linter.unusedVariables false
set_option linter.unusedSimpArgs false
namespace Go.Proofs.YtmllpkpdfhniaaaGreat
open Go.RowKit Go.Sort

theorem decE_len {t : Int} {l : List UInt8} (h : decE t l = 0) (hz : szOf t ≠ 0) : l.length = (szOf t).toNat := by
  have hs : 0 ≤ szOf t := by unfold szOf; repeat (first | omega | split)
  unfold decE at h
  by_cases h1 : isOf t = false
  · rw [if_pos h1] at h; exact absurd h (by decide)
  rw [if_neg h1] at h
  by_cases h2 : (l.length : Int) < szOf t
  · rw [if_pos h2] at h; exact absurd h (by decide)
  rw [if_neg h2] at h
  by_cases h3 : (0 < szOf t ∧ szOf t < (l.length : Int)) ∨ 65536 < (l.length : Int)
  · rw [if_pos h3] at h; exact absurd h (by decide)
  omega
theorem decV_wf (t : Int) (l : List UInt8) : (decV t l).wf := by
  unfold decV
  split
  · rename_i h
    unfold rawV
    split
    · exact ⟨by show (0 : Int) ≤ 0; omega, by show (0 : Int) ≤ _; omega⟩
    · rename_i hz
      exact wideV_wf t l (decE_len h hz)
  · exact ⟨by show (0 : Int) ≤ 0; omega, by show (0 : Int) ≤ _; omega⟩

theorem ItemAt.facts {w : World} {b : Nat} {e : E} {v : V} (h : ItemAt w b e v) : ∀ j, w.cell? ⟨b, j, none⟩ = (itemCells e v)[j]? := h.cell

/-- od's may. -/
theorem may_any {w : World} {db lo hi : Nat} {vl : Value} {its : List (Nat × E × V)} (h : PD w db lo hi vl its) (hS : PS its) (px py : Int) (hp : 0 ≤ py ∧ py ≤ 255) (bv : Value) (l : List UInt8) (hR : RdB w bv l) :
    ∃ p vv, Calls Tryz.prog 150 #[.pointer (some ⟨db, 0, none⟩), .int .u16 px, .int .u8 py, bv] w (fun e w' => RetM p vv (mayC its px py l) w e w') ∧
      (mayC its px py l = 0 → ∃ x, getI its (px * 256 + py) = some x ∧ p = .pointer (some ⟨x.1, 0, none⟩) ∧ vv = decV x.2.1.df.t l) := by
  unfold mayC
  cases hg : getI its (px * 256 + py) with
  | none =>
    have HF := fun w' hf => find_none (h.fr (w' := w') hf) hS px py hp hg
    have hn := fcode_ne its px
    refine ⟨.pointer none, ⟨0, 0, noB⟩, ?_, fun h0 => ?_⟩
    · obtain ⟨_, A, cb, rfl, _⟩ := hR
      clear h hS hg
      dsimp only
      generalize fcode its px = c at *
      go_enter Tryz.func150, Tryz.ntmps150
      go_wp2_with (first | (go_at_call 101; refine (HF _ (by (repeat (with_reducible first | exact Fr.refl _ | assumption | refine Fr.alloc ?_ _ | refine Fr.drew ?_ | refine Fr.drewN ?_ _ | refine Fr.set ?_ (by first | (simp; done) | (simp; omega)) _ | refine Fr.trans ?_ (by assumption))))).mono ?_; rintro e w1 ⟨rfl, hF1⟩; have hz1 := hF1.size; (try simp at hz1); (try (have hz1_0 : w.heap.size < w1.heap.size := (by omega))); have hc1 := hF1.cells; have hf1 := hF1.froz; have hg1_0 : ∀ o, w1.frozen? ⟨w.heap.size, o, none⟩ = false := (by intro o; rw [hf1 _ _ (by first | (simp; done) | (simp; omega) | omega)]; (first | (simp; done) | (simp [*]; done) | go_simp)); have hk1_0 : w1.cell? ⟨w.heap.size, 0, none⟩ = some (.int .i64 0) := (by rw [hc1 _ _ (by first | (simp; done) | (simp; omega) | omega)]; (first | (simp; done) | (simp [*]; done) | go_simp)); have hk1_1 : w1.cell? ⟨w.heap.size, 1, none⟩ = some (.int .u64 0) := (by rw [hc1 _ _ (by first | (simp; done) | (simp; omega) | omega)]; (first | (simp; done) | (simp [*]; done) | go_simp)); have hk1_2 : w1.cell? ⟨w.heap.size, 2, none⟩ = some (.string ⟨#[]⟩) := (by rw [hc1 _ _ (by first | (simp; done) | (simp; omega) | omega)]; (first | (simp; done) | (simp [*]; done) | go_simp))))
      exact bodyPost_ret (v := .tuple #[.pointer none, .agg #[.int .i64 0, .int .u64 0, .string ⟨#[]⟩], .int .u32 c]) (by simp [*, results, Tryz.results150, go_sem]) rfl (⟨rfl, by (repeat (with_reducible first | exact Fr.refl _ | assumption | refine Fr.alloc ?_ _ | refine Fr.drew ?_ | refine Fr.drewN ?_ _ | refine Fr.set ?_ (by first | (simp; done) | (simp; omega)) _ | refine Fr.trans ?_ (by assumption)))⟩)
    · rw [show fcode its px = 0 from h0] at hn; exact absurd hn (by decide)
  | some x =>
    have HF := fun w' hf => find_some (h.fr (w' := w') hf) hS px py hp hg
    have hm := (getI_some hg).1
    have hI := h.items x hm
    have hlt := hI.lt
    have hw := hS.wf x hm
    have kc := hI.cell
    have HDx := fun w' (hf : Fr w w') => decode_any x.2.1.df.t bv l w' (hR.fr hf)
    have HWx := fun v hv w' => within_any x.2.1 v hw hv w'
    obtain ⟨b, ⟨ix, sub, acc, mp, lim, ⟨t1, n1, b1⟩, ⟨t2, n2, b2⟩, ⟨t3, n3, b3⟩⟩, v0⟩ := x
    obtain ⟨_, A, cb, rfl, _⟩ := hR
    unfold mayX
    dsimp only at *
    unfold RetV V.agg at HDx
    unfold E.agg V.agg at HWx
    dsimp only at HWx
    have hvw := decV_wf t3 l
    generalize hdv : decV t3 l = dv at *
    obtain ⟨td, nd, bd⟩ := dv
    dsimp only at HDx
    by_cases h1 : acc ≠ 1 ∧ acc ≠ 2
    · rw [if_pos h1]
      refine ⟨.pointer none, ⟨0, 0, noB⟩, ?_, fun h0 => absurd h0 (by decide)⟩
      exact may_no b db ix sub acc mp lim t1 n1 t2 n2 t3 n3 b1 b2 b3 px py A l.length cb w hlt (kc 0) (kc 1) (kc 2) (kc 3) (kc 4) (kc 5) (kc 6) (kc 7) (kc 8) (kc 9) (kc 10) (kc 11) (kc 12) (kc 13) HF (bne_true h1.1) (bne_true h1.2)
    rw [if_neg h1]
    by_cases h2 : decE t3 l = 0
    · rw [if_pos h2]
      refine ⟨.pointer (some ⟨b, 0, none⟩), ⟨td, nd, bd⟩, ?_, fun _ => ⟨_, rfl, rfl, hdv.symm⟩⟩
      by_cases h3 : lim = true
      · rw [if_pos h3]
        by_cases ha : acc = 1
        · exact may_r_lim b db ix sub acc mp lim t1 n1 t2 n2 t3 n3 b1 b2 b3 px py A l.length cb w hlt (kc 0) (kc 1) (kc 2) (kc 3) (kc 4) (kc 5) (kc 6) (kc 7) (kc 8) (kc 9) (kc 10) (kc 11) (kc 12) (kc 13) HF td nd bd _ HDx (bne_false ha) (beq_true h2) h3 _ (fun w' _ => HWx ⟨td, nd, bd⟩ hvw w')
        · exact may_w_lim b db ix sub acc mp lim t1 n1 t2 n2 t3 n3 b1 b2 b3 px py A l.length cb w hlt (kc 0) (kc 1) (kc 2) (kc 3) (kc 4) (kc 5) (kc 6) (kc 7) (kc 8) (kc 9) (kc 10) (kc 11) (kc 12) (kc 13) HF td nd bd _ HDx (bne_true ha) (bne_false (by omega)) (beq_true h2) h3 _ (fun w' _ => HWx ⟨td, nd, bd⟩ hvw w')
      · rw [if_neg h3]
        by_cases ha : acc = 1
        · exact may_r_ok b db ix sub acc mp lim t1 n1 t2 n2 t3 n3 b1 b2 b3 px py A l.length cb w hlt (kc 0) (kc 1) (kc 2) (kc 3) (kc 4) (kc 5) (kc 6) (kc 7) (kc 8) (kc 9) (kc 10) (kc 11) (kc 12) (kc 13) HF td nd bd _ HDx (bne_false ha) (beq_true h2) (by simpa using h3)
        · exact may_w_ok b db ix sub acc mp lim t1 n1 t2 n2 t3 n3 b1 b2 b3 px py A l.length cb w hlt (kc 0) (kc 1) (kc 2) (kc 3) (kc 4) (kc 5) (kc 6) (kc 7) (kc 8) (kc 9) (kc 10) (kc 11) (kc 12) (kc 13) HF td nd bd _ HDx (bne_true ha) (bne_false (by omega)) (beq_true h2) (by simpa using h3)
    rw [if_neg h2]
    by_cases h3 : decE t3 l = 3
    · rw [if_pos h3]
      refine ⟨.pointer none, ⟨td, nd, bd⟩, ?_, fun h0 => absurd h0 (by decide)⟩
      by_cases ha : acc = 1
      · exact may_r_short b db ix sub acc mp lim t1 n1 t2 n2 t3 n3 b1 b2 b3 px py A l.length cb w hlt (kc 0) (kc 1) (kc 2) (kc 3) (kc 4) (kc 5) (kc 6) (kc 7) (kc 8) (kc 9) (kc 10) (kc 11) (kc 12) (kc 13) HF td nd bd _ HDx (bne_false ha) (beq_false h2) (beq_true h3)
      · exact may_w_short b db ix sub acc mp lim t1 n1 t2 n2 t3 n3 b1 b2 b3 px py A l.length cb w hlt (kc 0) (kc 1) (kc 2) (kc 3) (kc 4) (kc 5) (kc 6) (kc 7) (kc 8) (kc 9) (kc 10) (kc 11) (kc 12) (kc 13) HF td nd bd _ HDx (bne_true ha) (bne_false (by omega)) (beq_false h2) (beq_true h3)
    rw [if_neg h3]
    by_cases h4 : decE t3 l = 2
    · rw [if_pos h4]
      refine ⟨.pointer none, ⟨td, nd, bd⟩, ?_, fun h0 => absurd h0 (by decide)⟩
      by_cases ha : acc = 1
      · exact may_r_long b db ix sub acc mp lim t1 n1 t2 n2 t3 n3 b1 b2 b3 px py A l.length cb w hlt (kc 0) (kc 1) (kc 2) (kc 3) (kc 4) (kc 5) (kc 6) (kc 7) (kc 8) (kc 9) (kc 10) (kc 11) (kc 12) (kc 13) HF td nd bd _ HDx (bne_false ha) (beq_false h2) (beq_false h3) (beq_true h4)
      · exact may_w_long b db ix sub acc mp lim t1 n1 t2 n2 t3 n3 b1 b2 b3 px py A l.length cb w hlt (kc 0) (kc 1) (kc 2) (kc 3) (kc 4) (kc 5) (kc 6) (kc 7) (kc 8) (kc 9) (kc 10) (kc 11) (kc 12) (kc 13) HF td nd bd _ HDx (bne_true ha) (bne_false (by omega)) (beq_false h2) (beq_false h3) (beq_true h4)
    rw [if_neg h4]
    refine ⟨.pointer none, ⟨td, nd, bd⟩, ?_, fun h0 => absurd h0 (by decide)⟩
    by_cases ha : acc = 1
    · exact may_r_bad b db ix sub acc mp lim t1 n1 t2 n2 t3 n3 b1 b2 b3 px py A l.length cb w hlt (kc 0) (kc 1) (kc 2) (kc 3) (kc 4) (kc 5) (kc 6) (kc 7) (kc 8) (kc 9) (kc 10) (kc 11) (kc 12) (kc 13) HF td nd bd _ HDx (bne_false ha) (beq_false h2) (beq_false h3) (beq_false h4)
    · exact may_w_bad b db ix sub acc mp lim t1 n1 t2 n2 t3 n3 b1 b2 b3 px py A l.length cb w hlt (kc 0) (kc 1) (kc 2) (kc 3) (kc 4) (kc 5) (kc 6) (kc 7) (kc 8) (kc 9) (kc 10) (kc 11) (kc 12) (kc 13) HF td nd bd _ HDx (bne_true ha) (bne_false (by omega)) (beq_false h2) (beq_false h3) (beq_false h4)

/-- od's May. -/
theorem May_any {w : World} {db lo hi : Nat} {vl : Value} {its : List (Nat × E × V)} (h : PD w db lo hi vl its) (hS : PS its) (px py : Int) (hp : 0 ≤ py ∧ py ≤ 255) (bv : Value) (l : List UInt8) (hR : RdB w bv l) :
    Calls Tryz.prog 95 #[.pointer (some ⟨db, 0, none⟩), .int .u16 px, .int .u8 py, bv] w fun e w' => e = .returned (.int .u32 (mayC its px py l)) ∧ Fr w w' := by
  obtain ⟨p, ⟨td, nd, bd⟩, HM, _⟩ := may_any h hS px py hp bv l hR
  obtain ⟨_, A, cb, rfl, _⟩ := hR
  unfold RetM V.agg at HM
  dsimp only at HM
  clear h hS
  generalize mayC its px py l = c at *
  go_enter Tryz.func95, Tryz.ntmps95
  go_wp2_with (first | (go_at_call 150; refine (HM).mono ?_; rintro e w1 ⟨rfl, hF1⟩; have hz1 := hF1.size; (try simp at hz1); have hc1 := hF1.cells; have hf1 := hF1.froz))
  go_ret
  exact ⟨rfl, by (repeat (with_reducible first | exact Fr.refl _ | assumption | refine Fr.alloc ?_ _ | refine Fr.drew ?_ | refine Fr.drewN ?_ _ | refine Fr.set ?_ (by first | (simp; done) | (simp; omega)) _ | refine Fr.trans ?_ (by assumption)))⟩

end Go.Proofs.YtmllpkpdfhniaaaGreat

namespace Go.Proofs.YtmllpkpdfhniaaaGreat
open Go.RowKit Go.Sort

/-- Of what was there only blocks from lo to hi may have changed. -/
structure Chg (lo hi : Nat) (w w' : World) : Prop where
  os : w'.os = w.os
  tape : w'.tape = w.tape
  output : w'.output = w.output
  size : w.heap.size ≤ w'.heap.size
  block : ∀ k, k < w.heap.size → k < lo ∨ hi ≤ k → w'.heap[k]? = w.heap[k]?
theorem Chg.of_fr {lo hi : Nat} {w w' : World} (h : Fr w w') : Chg lo hi w w' := ⟨h.os, h.tape, h.output, h.size, fun k hk _ => h.block k hk⟩
theorem Chg.refl (lo hi : Nat) (w : World) : Chg lo hi w w := Chg.of_fr (Fr.refl w)
theorem Chg.trans {lo hi : Nat} {a b c : World} (h : Chg lo hi a b) (k : Chg lo hi b c) : Chg lo hi a c :=
  ⟨k.os.trans h.os, k.tape.trans h.tape, k.output.trans h.output, Nat.le_trans h.size k.size, fun n hn hc => (k.block n (Nat.lt_of_lt_of_le hn h.size) hc).trans (h.block n hn hc)⟩
theorem Chg.below {lo hi B : Nat} {w w' : World} (h : Chg lo hi w w') (hB : B ≤ lo) (hs : B ≤ w.heap.size) : RowKit.Below B w w' := ⟨h.os, h.tape, h.output, h.size, fun k hk => h.block k (by omega) (.inl (by omega))⟩
theorem Chg.fr {lo hi : Nat} {a w w' : World} (h : Fr a w) (k : Chg lo hi w w') (hl : a.heap.size ≤ lo) : Fr a w' :=
  RowKit.Below.trans h (k.below hl h.size)
theorem Chg.at_ {lo hi : Nat} {w w' : World} (h : Chg lo hi w w') {b : Nat} {o : Obj} (hb : w.heap[b]? = some o) (hc : b < lo ∨ hi ≤ b) : w'.heap[b]? = some o := (h.block b (Array.getElem?_eq_some_iff.1 hb).1 hc).trans hb
theorem PD.chg {w w' : World} {db lo hi lo' hi' : Nat} {vl : Value} {its : List (Nat × E × V)} (h : PD w db lo hi vl its) (hc : Chg lo' hi' w w') (hd : hi ≤ lo' ∨ hi' ≤ lo) : PD w' db lo hi vl its :=
  h.kept (fun k h1 h2 => hc.block k (Nat.lt_of_lt_of_le h2 h.top) (by omega)) hc.size

/-- The world in which three cells of a block are others. -/
def set3 (w : World) (b o : Nat) (v : V) : World := ((w.setCell ⟨b, o, none⟩ (.int .i64 v.t)).setCell ⟨b, o + 1, none⟩ (.int .u64 v.n)).setCell ⟨b, o + 2, none⟩ (.string v.b)
theorem set3_far (w : World) (b o k : Nat) (v : V) (h : k ≠ b) : (set3 w b o v).heap[k]? = w.heap[k]? := by
  unfold set3
  rw [heap_setCell_other _ _ _ _ h, heap_setCell_other _ _ _ _ h, heap_setCell_other _ _ _ _ h]
theorem set3_size (w : World) (b o : Nat) (v : V) : (set3 w b o v).heap.size = w.heap.size := by simp [set3]
theorem set3_chg (w : World) (b o lo hi : Nat) (v : V) (h : lo ≤ b ∧ b < hi) : Chg lo hi w (set3 w b o v) :=
  ⟨rfl, rfl, rfl, by rw [set3_size]; exact Nat.le_refl _, fun k _ hc => set3_far w b o k v (by omega)⟩
theorem set3_item {w : World} {b : Nat} {e : E} {v0 : V} (h : ItemAt w b e v0) (v : V) : ItemAt (set3 w b 14 v) b e v := by
  unfold ItemAt set3 at *
  rw [heap_setCell_same _ _ _ _ _ _ (heap_setCell_same _ _ _ _ _ _ (heap_setCell_same _ _ _ _ _ _ h))]
  rfl

def updI (its : List (Nat × E × V)) (p : Int) (v : V) : List (Nat × E × V) := its.map fun x => if plS x = p then (x.1, x.2.1, v) else x
theorem updI_1 (its : List (Nat × E × V)) (p : Int) (v : V) : (updI its p v).map (·.1) = its.map (·.1) := by
  unfold updI
  rw [List.map_map]
  apply List.map_congr_left
  intro x _
  simp only [Function.comp_apply]
  split <;> rfl
theorem updI_pl (its : List (Nat × E × V)) (p : Int) (v : V) : (updI its p v).map plS = its.map plS := by
  unfold updI
  rw [List.map_map]
  apply List.map_congr_left
  intro x _
  simp only [Function.comp_apply]
  split <;> rfl
theorem updI_e (its : List (Nat × E × V)) (p : Int) (v : V) : (updI its p v).map (·.2.1) = its.map (·.2.1) := by
  unfold updI
  rw [List.map_map]
  apply List.map_congr_left
  intro x _
  simp only [Function.comp_apply]
  split <;> rfl
theorem PS.upd {its : List (Nat × E × V)} (h : PS its) (p : Int) (v : V) (hv : v.wf) : PS (updI its p v) := by
  refine ⟨by simp [updI, h.len], ?_, ?_, by rw [updI_pl]; exact h.srt⟩
  · intro x hx
    obtain ⟨y, hy, rfl⟩ := List.mem_map.1 hx
    have := h.wf y hy
    split <;> exact this
  · intro x hx
    obtain ⟨y, hy, rfl⟩ := List.mem_map.1 hx
    have := h.vwf y hy
    split
    · exact hv
    · exact this
theorem inj_1 {its : List (Nat × E × V)} (hd : (its.map (·.1)).Nodup) {x y : Nat × E × V} (hx : x ∈ its) (hy : y ∈ its) (h : x.1 = y.1) : x = y := by
  induction its with
  | nil => cases hx
  | cons z its ih =>
    rw [List.map_cons, List.nodup_cons] at hd
    rcases List.mem_cons.1 hx with h1 | h1
    · rcases List.mem_cons.1 hy with h2 | h2
      · rw [h1, h2]
      · exact absurd (by rw [← h1, h]; exact List.mem_map_of_mem (f := fun x : Nat × E × V => x.1) h2) hd.1
    · rcases List.mem_cons.1 hy with h2 | h2
      · exact absurd (by rw [← h2, ← h]; exact List.mem_map_of_mem (f := fun x : Nat × E × V => x.1) h1) hd.1
      · exact ih hd.2 h1 h2
theorem PS.nodup {its : List (Nat × E × V)} (h : PS its) : (its.map plS).Nodup := h.srt.imp fun h => by omega
theorem PD.write {w : World} {db lo hi : Nat} {vl : Value} {its : List (Nat × E × V)} (h : PD w db lo hi vl its) (hS : PS its) {x : Nat × E × V} (hx : x ∈ its) (v : V) : PD (set3 w x.1 14 v) db lo hi vl (updI its (plS x) v) := by
  have hb := h.bs x hx
  have hp : ptrs (updI its (plS x) v) = ptrs its := by
    have := congrArg (List.map fun b : Nat => Value.pointer (some ⟨b, 0, none⟩)) (updI_1 its (plS x) v)
    rw [List.map_map, List.map_map] at this
    exact this
  have hl : (updI its (plS x) v).length = its.length := by simp [updI]
  refine ⟨(set3_far _ _ _ _ _ (Ne.symm hb.2.2.1)).trans h.d, ?_, ?_, by rw [updI_1]; exact h.nodup, by rw [set3_size]; exact h.top, h.bd, h.bl, ?_⟩
  · rw [hp, hl]
    refine ⟨h.row.1, h.row.2.imp id ?_⟩
    rintro ⟨g, cap, cur, hv, hlg, hg, r⟩
    exact ⟨g, cap, cur, hv, hlg, (set3_far _ _ _ _ _ (fun hh => hb.2.2.2 (by rw [hv, ← hh]; rfl))).trans hg, r⟩
  · intro y hy
    obtain ⟨z, hz, rfl⟩ := List.mem_map.1 hy
    by_cases hzx : plS z = plS x
    · rw [if_pos hzx]
      have : z = x := eq_of_pl hS.nodup hz hx hzx
      subst this
      exact set3_item (h.items z hz) v
    · rw [if_neg hzx]
      have hne : z.1 ≠ x.1 := fun hh => hzx (by rw [inj_1 h.nodup hz hx hh])
      exact (set3_far _ _ _ _ _ hne).trans (h.items z hz)
  · intro y hy
    obtain ⟨z, hz, rfl⟩ := List.mem_map.1 hy
    have := h.bs z hz
    split <;> exact this

def wrI (its : List (Nat × E × V)) (px py : Int) (l : List UInt8) : List (Nat × E × V) :=
  if mayC its px py l = 0 then (match getI its (px * 256 + py) with | none => its | some x => updI its (px * 256 + py) (decV x.2.1.df.t l)) else its
theorem PS.wr {its : List (Nat × E × V)} (h : PS its) (px py : Int) (l : List UInt8) : PS (wrI its px py l) := by
  unfold wrI
  split
  · split
    · exact h
    · exact h.upd _ _ (decV_wf _ _)
  · exact h

/-- od's Write. -/
theorem write_any {w : World} {db lo hi : Nat} {vl : Value} {its : List (Nat × E × V)} (h : PD w db lo hi vl its) (hS : PS its) (px py : Int) (hp : 0 ≤ py ∧ py ≤ 255) (bv : Value) (l : List UInt8) (hR : RdB w bv l) :
    Calls Tryz.prog 96 #[.pointer (some ⟨db, 0, none⟩), .int .u16 px, .int .u8 py, bv] w fun e w' => e = .returned (.int .u32 (mayC its px py l)) ∧ PD w' db lo hi vl (wrI its px py l) ∧ Chg lo hi w w' := by
  obtain ⟨p, ⟨td, nd, bd⟩, HM, h0⟩ := may_any h hS px py hp bv l hR
  obtain ⟨_, A, cb, rfl, _⟩ := hR
  unfold RetM V.agg at HM
  dsimp only at HM
  by_cases hc : mayC its px py l = 0
  · obtain ⟨x, hg, rfl, hv⟩ := h0 hc
    obtain ⟨hm, hpl⟩ := getI_some hg
    have hI := h.items x hm
    have hlt := hI.lt
    have hw : wrI its px py l = updI its (plS x) ⟨td, nd, bd⟩ := by
      unfold wrI
      rw [if_pos hc, hg, hpl, hv]
    rw [hw]
    rw [hc] at HM ⊢
    have k14 := hI.fact 14 (.int .i64 x.2.2.t) rfl
    have k15 := hI.fact 15 (.int .u64 x.2.2.n) rfl
    have k16 := hI.fact 16 (.string x.2.2.b) rfl
    have kf := hI.froz
    have HH := Lib.hid h
    have HS := Lib.hid hS
    have HX := Lib.hid hm
    have HB := Lib.hid (h.bs x hm)
    clear h hS h0 hg hv hI hc hw hpl hm
    obtain ⟨b, e, ⟨t0, n0, b0⟩⟩ := x
    dsimp only at *
    go_enter Tryz.func96, Tryz.ntmps96
    go_wp2_with (go_at_call 150; refine HM.mono ?_; rintro e w1 ⟨rfl, hF1⟩; (have hz1 := hF1.size; (try simp at hz1); (try (have hz1_0 : b < w1.heap.size := (by omega))); have hc1 := hF1.cells; have hf1 := hF1.froz); have j14 : w1.cell? ⟨b, 14, none⟩ = some (.int .i64 t0) := hF1.cell k14; have j15 : w1.cell? ⟨b, 15, none⟩ = some (.int .u64 n0) := hF1.cell k15; have j16 : w1.cell? ⟨b, 16, none⟩ = some (.string b0) := hF1.cell k16; have jf : ∀ o, w1.frozen? ⟨b, o, none⟩ = false := (fun o => (hF1.froz _ _ hlt).trans (kf o)); have hne : b ≠ w1.heap.size := (Nat.ne_of_lt hz1_0); have hne2 : w1.heap.size ≠ b := Ne.symm hne)
    go_ret
    exact ⟨rfl, ((HH.out.fr hF1).write HS.out HX.out ⟨td, nd, bd⟩).fr ((Fr.refl _).alloc _), Chg.trans (Chg.of_fr hF1) (Chg.trans (set3_chg w1 b 14 lo hi ⟨td, nd, bd⟩ ⟨HB.out.1, HB.out.2.1⟩) (Chg.of_fr ((Fr.refl _).alloc _)))⟩
  · have hw : wrI its px py l = its := by unfold wrI; rw [if_neg hc]
    rw [hw]
    have hc' := beq_false hc
    have HH := Lib.hid h
    clear h hS h0 hc hw
    generalize mayC its px py l = c at *
    go_enter Tryz.func96, Tryz.ntmps96
    go_wp2_with (first | (go_at_call 150; refine (HM).mono ?_; rintro e w1 ⟨rfl, hF1⟩; have hz1 := hF1.size; (try simp at hz1); have hc1 := hF1.cells; have hf1 := hF1.froz))
    go_ret
    have hF : Fr w (w1.alloc (.cells #[.int .i64 td, .int .u64 nd, .string bd] 44)) := by (repeat (with_reducible first | exact Fr.refl _ | assumption | refine Fr.alloc ?_ _ | refine Fr.drew ?_ | refine Fr.drewN ?_ _ | refine Fr.set ?_ (by first | (simp; done) | (simp; omega)) _ | refine Fr.trans ?_ (by assumption)))
    exact ⟨rfl, HH.out.fr hF, Chg.of_fr hF⟩

end Go.Proofs.YtmllpkpdfhniaaaGreat
