/- The two arguments of DcfLast, opened: entries and items. -/
import Derived.Test.YtmllpkpdfhniaaaGreatJBZb
import Derived.Deep.Slices
import Derived.Deep.Strs
import Derived.ChangeSlices
import Derived.ChangeArms
import Derived.ChangeOld
import Derived.SizedLaws
import Derived.ProofKit
import Derived.OpenShut
set_option linter.unusedVariables false
set_option linter.unusedSimpArgs false
namespace Go.Proofs.YtmllpkpdfhniaaaGreat
open Go.RowKit Go.Deep Go.ChangeShapes Go.WideShapes

section
variable {H : Type} {enc : TypeId × Value → H} {w : World} {base : Nat} {spare : Nat → Bool} {held : Bool}

theorem c14 : Tryz.prog.cellsOf 46 = 14 := by kernel_rfl
theorem c3v : Tryz.prog.cellsOf 44 = 3 := by kernel_rfl
theorem c3i : Tryz.prog.cellsOf 50 = 3 := by kernel_rfl
theorem b120 : Tryz.prog.bytesOf 46 = 120 := by kernel_rfl
theorem b32 : Tryz.prog.bytesOf 50 = 32 := by kernel_rfl
theorem b1 : Tryz.prog.bytesOf 5 = 1 := by kernel_rfl
theorem k41 : Tryz.prog.cellsOf 41 = 1 := by kernel_rfl
theorem k5 : Tryz.prog.cellsOf 5 = 1 := by kernel_rfl
theorem k3 : Tryz.prog.cellsOf 3 = 1 := by kernel_rfl
theorem k4 : Tryz.prog.cellsOf 4 = 1 := by kernel_rfl
theorem k42 : Tryz.prog.cellsOf 42 = 1 := by kernel_rfl
theorem k9 : Tryz.prog.cellsOf 9 = 1 := by kernel_rfl
theorem k36 : Tryz.prog.cellsOf 36 = 1 := by kernel_rfl

theorem len3 {α : Type} {l : List α} (h : l.length = 3) : ∃ a b c, l = [a, b, c] := by
  match l, h with
  | [a, b, c], _ => exact ⟨a, b, c, rfl⟩
theorem len8 {α : Type} {l : List α} (h : l.length = 8) : ∃ y0 y1 y2 y3 y4 y5 y6 y7, l = [y0, y1, y2, y3, y4, y5, y6, y7] := by
  match l, h with
  | [y0, y1, y2, y3, y4, y5, y6, y7], _ => exact ⟨y0, y1, y2, y3, y4, y5, y6, y7, rfl⟩
theorem len14 {α : Type} {l : List α} (h : l.length = 14) : ∃ a0 a1 a2 a3 a4 a5 a6 a7 a8 a9 a10 a11 a12 a13, l = [a0, a1, a2, a3, a4, a5, a6, a7, a8, a9, a10, a11, a12, a13] := by
  match l, h with
  | [a0, a1, a2, a3, a4, a5, a6, a7, a8, a9, a10, a11, a12, a13], _ => exact ⟨a0, a1, a2, a3, a4, a5, a6, a7, a8, a9, a10, a11, a12, a13, rfl⟩
theorem openV {n : Nat} {cs : List Value} {x : DataW H × List MemPlace} (h : DataW.trod enc Tryz.prog w base spare held n 44 cs = some x) : ∃ v : V, cs = v.cells ∧ v.wf := by
  obtain ⟨y0, y1, y2, m, rfl, hl, h0, h1, h2⟩ := trod_struct3 Tryz.underlying44 h
  rw [c3v] at hl
  obtain ⟨a, b, c, rfl⟩ := len3 hl
  · simp only [k3, k42, k9, List.drop_zero, List.drop_succ_cons, List.take_succ_cons, List.take_zero] at h0 h1 h2
    obtain ⟨t, e0, _, _⟩ := DataW.trod_int Tryz.underlying3 h0
    obtain ⟨u, e1, _, hu⟩ := DataW.trod_int Tryz.underlying42 h1
    obtain ⟨s, e2, _, _⟩ := DataW.trod_string Tryz.underlying9 h2
    cases e0
    cases e1
    cases e2
    exact ⟨⟨t, u, s⟩, rfl, bounds_u64 hu⟩

theorem openE {n : Nat} {cs : List Value} {x : DataW H × List MemPlace} (h : DataW.trod enc Tryz.prog w base spare held n 46 cs = some x) : ∃ e : E, cs = e.cells ∧ e.wf := by
  obtain ⟨xs, m, _, rfl, hl, hxl, hf⟩ := DataW.trod_struct Tryz.underlying46 h
  rw [c14] at hl
  have hxl : xs.length = 8 := hxl
  obtain ⟨y0, y1, y2, y3, y4, y5, y6, y7, rfl⟩ := len8 hxl
  · obtain ⟨a0, a1, a2, a3, a4, a5, a6, a7, a8, a9, a10, a11, a12, a13, rfl⟩ := len14 hl
    · skip
      have h0 : DataW.trod enc Tryz.prog w base spare held m 41 (List.take (Tryz.prog.cellsOf 41) (List.drop 0 [a0, a1, a2, a3, a4, a5, a6, a7, a8, a9, a10, a11, a12, a13])) = some y0 := hf 0 _ rfl
      have h1 : DataW.trod enc Tryz.prog w base spare held m 5 (List.take (Tryz.prog.cellsOf 5) (List.drop 1 [a0, a1, a2, a3, a4, a5, a6, a7, a8, a9, a10, a11, a12, a13])) = some y1 := hf 1 _ rfl
      have h2 : DataW.trod enc Tryz.prog w base spare held m 3 (List.take (Tryz.prog.cellsOf 3) (List.drop 2 [a0, a1, a2, a3, a4, a5, a6, a7, a8, a9, a10, a11, a12, a13])) = some y2 := hf 2 _ rfl
      have h3 : DataW.trod enc Tryz.prog w base spare held m 4 (List.take (Tryz.prog.cellsOf 4) (List.drop 3 [a0, a1, a2, a3, a4, a5, a6, a7, a8, a9, a10, a11, a12, a13])) = some y3 := hf 3 _ rfl
      have h4 : DataW.trod enc Tryz.prog w base spare held m 4 (List.take (Tryz.prog.cellsOf 4) (List.drop 4 [a0, a1, a2, a3, a4, a5, a6, a7, a8, a9, a10, a11, a12, a13])) = some y4 := hf 4 _ rfl
      have h5 : DataW.trod enc Tryz.prog w base spare held m 44 (List.take (Tryz.prog.cellsOf 44) (List.drop 5 [a0, a1, a2, a3, a4, a5, a6, a7, a8, a9, a10, a11, a12, a13])) = some y5 := hf 5 _ rfl
      have h6 : DataW.trod enc Tryz.prog w base spare held m 44 (List.take (Tryz.prog.cellsOf 44) (List.drop 8 [a0, a1, a2, a3, a4, a5, a6, a7, a8, a9, a10, a11, a12, a13])) = some y6 := hf 6 _ rfl
      have h7 : DataW.trod enc Tryz.prog w base spare held m 44 (List.take (Tryz.prog.cellsOf 44) (List.drop 11 [a0, a1, a2, a3, a4, a5, a6, a7, a8, a9, a10, a11, a12, a13])) = some y7 := hf 7 _ rfl
      clear hf hl hxl h
      simp only [k41, k5, k3, k4, c3v, List.drop_zero, List.drop_succ_cons, List.take_succ_cons, List.take_zero, List.getElem?_cons_zero, List.getElem?_cons_succ] at h0 h1 h2 h3 h4 h5 h6 h7
      obtain ⟨ix, e0, _, hix⟩ := DataW.trod_int Tryz.underlying41 h0
      obtain ⟨sub, e1, _, hsub⟩ := DataW.trod_int Tryz.underlying5 h1
      obtain ⟨acc, e2, _, _⟩ := DataW.trod_int Tryz.underlying3 h2
      obtain ⟨mp, e3, _⟩ := DataW.trod_bool Tryz.underlying4 h3
      obtain ⟨lim, e4, _⟩ := DataW.trod_bool Tryz.underlying4 h4
      obtain ⟨v5, e5, w5⟩ := openV h5
      obtain ⟨v6, e6, w6⟩ := openV h6
      obtain ⟨v7, e7, w7⟩ := openV h7
      simp only [List.cons.injEq, and_true] at e0
      subst e0
      simp only [List.cons.injEq, and_true] at e1
      subst e1
      simp only [List.cons.injEq, and_true] at e2
      subst e2
      simp only [List.cons.injEq, and_true] at e3
      subst e3
      simp only [List.cons.injEq, and_true] at e4
      subst e4
      simp only [V.cells, List.cons.injEq, and_true] at e5
      obtain ⟨rfl, rfl, rfl⟩ := e5
      simp only [V.cells, List.cons.injEq, and_true] at e6
      obtain ⟨rfl, rfl, rfl⟩ := e6
      simp only [V.cells, List.cons.injEq, and_true] at e7
      obtain ⟨rfl, rfl, rfl⟩ := e7
      exact ⟨⟨ix, sub, acc, mp, lim, v5, v6, v7⟩, rfl, bounds_u16 hix, bounds_u8 hsub, w5, w6, w7⟩

instance : Inhabited E := ⟨E.zero⟩
instance : Inhabited Jt := ⟨⟨0, 0, []⟩, .slice none 0 0⟩

/-- From elements by index to a row that is read. -/
theorem rd_of_cells {α : Type} [Inhabited α] (f : α → List Value) (sz : Nat) (hpos : 0 < sz) (hf : ∀ x, (f x).length = sz) (a : Addr) (len cap : Nat) (hl : len ≤ cap) (hm : cap ≤ maxLen) (F : Nat → α)
    (cell : ∀ i, i < len → ∀ k, k < sz → w.cell? ((a.add (i * sz)).add k) = (f (F i))[k]?) : Rd w sz (.slice (some a) len cap) len (((List.range len).map F).map f).flatten := by
  have hlen : (((List.range len).map F).map f).flatten.length = len * sz := by
    have := flat_len f sz hf ((List.range len).map F)
    rwa [List.length_map, List.length_range] at this
  refine ⟨hlen, _, _, rfl, hl, hm, ?_⟩
  rcases Nat.eq_zero_or_pos len with h0 | hp
  · exact .inl h0
  · right
    obtain ⟨b, o, spot⟩ := a
    have hc0 := cell 0 hp 0 hpos
    rw [List.getElem?_eq_getElem (by rw [hf]; exact hpos)] at hc0
    have hspot : spot = none := by simpa [Addr.add] using World.cell?_spot hc0
    subst hspot
    refine ⟨b, o, rfl, ?_, fun j u hu => ?_⟩
    · have := World.block_lt_of_cell? w _ hc0
      simpa [Addr.add] using this
    · have hj : j < len * sz := by rw [← hlen]; exact (List.getElem?_eq_some_iff.1 hu).1
      have hi : j / sz < len := (Nat.div_lt_iff_lt_mul hpos).2 hj
      have hk : j % sz < sz := Nat.mod_lt _ hpos
      have hjj : j / sz * sz + j % sz = j := by rw [Nat.mul_comm]; exact Nat.div_add_mod j sz
      have hx : ((List.range len).map F)[j / sz]? = some (F (j / sz)) := by simp [hi]
      have h1 := flat_at f sz hf _ _ _ _ hx hk
      rw [hjj] at h1
      rw [h1, ← cell _ hi _ hk] at hu
      rw [← hu, Deep.add_add, hjj]
      unfold Addr.add
      by_cases h0 : j = 0 <;> simp [h0]

def byF (x : UInt8) : List Value := [.int .u8 (x.toNat : Int)]
theorem bcs_byF (l : List UInt8) : (l.map byF).flatten = bcs l := by
  induction l with
  | nil => rfl
  | cons x l ih => rw [List.map_cons, List.flatten_cons, ih]; rfl
theorem byte_of (z : Int) (h : 0 ≤ z ∧ z ≤ 255) : ((UInt8.ofNat z.toNat).toNat : Int) = z := by
  obtain ⟨m, rfl⟩ := Int.eq_ofNat_of_zero_le h.1
  have : m < 256 := by omega
  simp
  omega

theorem openB {n : Nat} {v : Value} {x : DataW H × List MemPlace} (h : DataW.trod enc Tryz.prog w base spare held n 36 [v] = some x) :
    ∃ l : List UInt8, RdB w v l ∧ ((∀ k ∈ x.1.weights Tryz.prog 36, k ≤ reachBytes) → l.length ≤ reachBytes) := by
  rcases open_ints Tryz.underlying36 Tryz.underlying5 k5 h with ⟨hcs, hx⟩ | ⟨a, len, cap, zs, hcs, _, hl, hm, hz, hx, hcell, hwz⟩
  · simp only [List.cons.injEq, and_true] at hcs
    subst hcs
    exact ⟨[], RdB.nil _, fun _ => Nat.zero_le _⟩
  · simp only [List.cons.injEq, and_true] at hcs
    subst hcs
    subst hx
    have hlz : len ≤ zs.length := by rw [hz]; split <;> omega
    refine ⟨(List.range len).map fun i => UInt8.ofNat (zs.getD i 0).toNat, ?_, fun hw => ?_⟩
    · have := rd_of_cells (w := w) byF 1 (by decide) (fun _ => rfl) a len cap hl hm (fun i => UInt8.ofNat (zs.getD i 0).toNat) fun i hi k hk => by
        have hk0 : k = 0 := by omega
        subst hk0
        have h1 := hcell i (by omega)
        have hb : 0 ≤ zs.getD i 0 ∧ zs.getD i 0 ≤ 255 := by have := range_u8 hwz i; simpa [List.getD] using this
        show w.cell? ((a.add (i * 1)).add 0) = some _
        rw [Deep.add_add, Nat.mul_one, Nat.add_zero, h1, byte_of _ hb]
      rw [bcs_byF] at this
      unfold RdB
      rw [List.length_map, List.length_range]
      exact this
    · have := hw ((len + (zs.length - len)) * Tryz.prog.bytesOf 5) (by
        simp only [DataW.weights, Tryz.underlying36, lits, List.length_map, List.length_take, List.length_drop, Nat.min_eq_left hlz]
        exact List.mem_cons_self)
      rw [b1] at this
      rw [List.length_map, List.length_range]
      omega

theorem openI {n : Nat} {cs : List Value} {x : DataW H × List MemPlace} (h : DataW.trod enc Tryz.prog w base spare held n 50 cs = some x) :
    ∃ j : Jt, cs = jcells j ∧ j.1.wf ∧ RdB w j.2 j.1.b ∧ ((∀ k ∈ x.1.weights Tryz.prog 50, k ≤ reachBytes) → j.1.b.length ≤ reachBytes) := by
  obtain ⟨y0, y1, y2, m, rfl, hl, h0, h1, h2⟩ := trod_struct3 Tryz.underlying50 h
  rw [c3i] at hl
  obtain ⟨a, b, c, rfl⟩ := len3 hl
  simp only [k41, k5, k36, List.drop_zero, List.drop_succ_cons, List.take_succ_cons, List.take_zero] at h0 h1 h2
  obtain ⟨ix, e0, _, hix⟩ := DataW.trod_int Tryz.underlying41 h0
  obtain ⟨sub, e1, _, hsub⟩ := DataW.trod_int Tryz.underlying5 h1
  obtain ⟨l, hR, hlw⟩ := openB h2
  simp only [List.cons.injEq, and_true] at e0 e1
  subst e0
  subst e1
  refine ⟨(⟨ix, sub, l⟩, c), rfl, ⟨bounds_u16 hix, bounds_u8 hsub⟩, hR, fun hw => hlw fun k hk => hw k ?_⟩
  simp only [DataW.weights, Tryz.underlying50]
  exact DataW.weights_mem_each (j := 2) rfl rfl k hk

theorem weights_all {P : Program} {e : TypeId} : ∀ {l : List (DataW H)} {d : DataW H}, d ∈ l → ∀ n ∈ d.weights P e, n ∈ DataW.weightsAll P e l
  | y :: l, d, hd, n, hn => by
    simp only [DataW.weightsAll, List.mem_append]
    rcases List.mem_cons.1 hd with rfl | hd
    · exact .inl hn
    · exact .inr (weights_all hd n hn)

theorem openEs {n : Nat} {v : Value} {x : DataW H × List MemPlace} (h : DataW.trod enc Tryz.prog w base spare held n 22 [v] = some x) :
    ∃ l : List E, RdE w v l ∧ (∀ e ∈ l, e.wf) ∧ ((∀ k ∈ x.1.weights Tryz.prog 22, k ≤ reachBytes) → l.length * 120 ≤ reachBytes) := by
  rcases open_slice Tryz.underlying22 h with ⟨hcs, hx⟩ | ⟨a, len, cap, m, k, D, Pl, hcs, _, hl, hm, hmm, hx, hall⟩
  · simp only [List.cons.injEq, and_true] at hcs
    subst hcs
    exact ⟨[], Rd.nil _ _, by simp, fun _ => Nat.zero_le _⟩
  · simp only [List.cons.injEq, and_true] at hcs
    subst hcs
    subst hx
    have hlm : len ≤ m := by rw [hmm]; split <;> omega
    rw [c14] at hall
    obtain ⟨F, hF⟩ := choose_lt (p := fun i (e : E) => w.cells? base (a.add (i * 14)) 14 = some e.cells ∧ e.wf) fun i hi => by
      obtain ⟨cs', h1, h2⟩ := hall i (Nat.lt_of_lt_of_le hi hlm)
      obtain ⟨e, he, hw⟩ := openE h2
      exact ⟨e, by rw [← he]; exact h1, hw⟩
    refine ⟨(List.range len).map F, ?_, fun e he => ?_, fun hw => ?_⟩
    · have := rd_of_cells (w := w) E.cells 14 (by decide) E.len a len cap hl hm F fun i hi k hk => (World.cells?_some (hF i hi).1).2.2 k hk
      unfold RdE
      rw [List.length_map, List.length_range]
      exact this
    · obtain ⟨i, hi, rfl⟩ := List.mem_map.1 he
      exact (hF i (List.mem_range.1 hi)).2
    · have := hw ((len + (m - len)) * Tryz.prog.bytesOf 46) (by
        simp only [DataW.weights, Tryz.underlying22, List.length_map, List.length_range]
        exact List.mem_cons_self)
      rw [b120] at this
      rw [List.length_map, List.length_range]
      omega

theorem openIs {n : Nat} {v : Value} {x : DataW H × List MemPlace} (h : DataW.trod enc Tryz.prog w base spare held n 23 [v] = some x) :
    ∃ js : List Jt, RdI w v js ∧ ((∀ k ∈ x.1.weights Tryz.prog 23, k ≤ reachBytes) → js.length * 32 ≤ reachBytes ∧ ∀ j ∈ js, j.1.b.length ≤ reachBytes) := by
  rcases open_slice Tryz.underlying23 h with ⟨hcs, hx⟩ | ⟨a, len, cap, m, k, D, Pl, hcs, _, hl, hm, hmm, hx, hall⟩
  · simp only [List.cons.injEq, and_true] at hcs
    subst hcs
    exact ⟨[], ⟨Rd.nil _ _, by simp, by simp⟩, fun _ => ⟨Nat.zero_le _, by simp⟩⟩
  · simp only [List.cons.injEq, and_true] at hcs
    subst hcs
    subst hx
    have hlm : len ≤ m := by rw [hmm]; split <;> omega
    rw [c3i] at hall
    obtain ⟨F, hF⟩ := choose_lt (p := fun i (j : Jt) => w.cells? base (a.add (i * 3)) 3 = some (jcells j) ∧ j.1.wf ∧ RdB w j.2 j.1.b ∧ ((∀ k ∈ (D i).weights Tryz.prog 50, k ≤ reachBytes) → j.1.b.length ≤ reachBytes)) fun i hi => by
      obtain ⟨cs', h1, h2⟩ := hall i (Nat.lt_of_lt_of_le hi hlm)
      obtain ⟨j, hj, hw, hR, hb⟩ := openI h2
      exact ⟨j, by rw [← hj]; exact h1, hw, hR, hb⟩
    refine ⟨(List.range len).map F, ⟨?_, fun j hj => ?_, fun j hj => ?_⟩, fun hw => ⟨?_, fun j hj => ?_⟩⟩
    · have := rd_of_cells (w := w) jcells 3 (by decide) jlen a len cap hl hm F fun i hi k hk => (World.cells?_some (hF i hi).1).2.2 k hk
      rw [List.length_map, List.length_range]
      exact this
    · obtain ⟨i, hi, rfl⟩ := List.mem_map.1 hj
      exact (hF i (List.mem_range.1 hi)).2.2.1
    · obtain ⟨i, hi, rfl⟩ := List.mem_map.1 hj
      exact (hF i (List.mem_range.1 hi)).2.1
    · have := hw ((len + (m - len)) * Tryz.prog.bytesOf 50) (by
        simp only [DataW.weights, Tryz.underlying23, List.length_map, List.length_range]
        exact List.mem_cons_self)
      rw [b32] at this
      rw [List.length_map, List.length_range]
      omega
    · obtain ⟨i, hi, rfl⟩ := List.mem_map.1 hj
      refine (hF i (List.mem_range.1 hi)).2.2.2 fun k hk => hw k ?_
      simp only [DataW.weights, Tryz.underlying23, List.mem_cons, List.mem_append]
      exact .inr (.inl (weights_all (List.mem_map_of_mem hi) k hk))
end
end Go.Proofs.YtmllpkpdfhniaaaGreat
