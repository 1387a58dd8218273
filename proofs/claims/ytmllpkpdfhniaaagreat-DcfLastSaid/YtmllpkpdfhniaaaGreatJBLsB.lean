/- dcf.lasts: the places of the items that are not written again. dcf.lasts: the walk. -/
import Derived.Test.YtmllpkpdfhniaaaGreatJBLas
import Derived.Test.YtmllpkpdfhniaaaGreatJABy
set_option linter.unusedVariables false
set_option linter.unusedSimpArgs false
namespace Go.Proofs.YtmllpkpdfhniaaaGreat
open Go.RowKit Go.Shelf
attribute [local go_sem] Oper.semAt_some

theorem setCells_far (b k : Nat) (hk : k ≠ b) : ∀ (vs : List Value) (o : Nat) (w : World), (w.setCells b o vs).heap[k]? = w.heap[k]?
  | [], o, w => rfl
  | v :: vs, o, w => by
    show ((w.setCell ⟨b, o, none⟩ v).setCells b (o + 1) vs).heap[k]? = _
    rw [setCells_far b k hk vs, heap_setCell_other _ _ _ _ hk]
theorem setCells_fr {w : World} (b : Nat) (hb : w.heap.size ≤ b) : ∀ (vs : List Value) (o : Nat) (w' : World), Fr w w' → Fr w (w'.setCells b o vs)
  | [], o, w', h => h
  | v :: vs, o, w', h => setCells_fr b hb vs (o + 1) _ (h.set hb v)
theorem setCells_size (b : Nat) : ∀ (vs : List Value) (o : Nat) (w : World), (w.setCells b o vs).heap.size = w.heap.size
  | [], o, w => rfl
  | v :: vs, o, w => by
    show ((w.setCell ⟨b, o, none⟩ v).setCells b (o + 1) vs).heap.size = _
    rw [setCells_size b vs]; simp

theorem setCells_os (b : Nat) : ∀ (vs : List Value) (o : Nat) (w : World), (w.setCells b o vs).os = w.os
  | [], o, w => rfl
  | v :: vs, o, w => setCells_os b vs (o + 1) (w.setCell ⟨b, o, none⟩ v)
theorem setCells_tape (b : Nat) : ∀ (vs : List Value) (o : Nat) (w : World), (w.setCells b o vs).tape = w.tape
  | [], o, w => rfl
  | v :: vs, o, w => setCells_tape b vs (o + 1) (w.setCell ⟨b, o, none⟩ v)
theorem setCells_output (b : Nat) : ∀ (vs : List Value) (o : Nat) (w : World), (w.setCells b o vs).output = w.output
  | [], o, w => rfl
  | v :: vs, o, w => setCells_output b vs (o + 1) (w.setCell ⟨b, o, none⟩ v)

def ics (l : List Nat) : List Value := l.map fun (i : Nat) => Value.int .i64 (i : Int)
theorem ics_len (l : List Nat) : (ics l).length = l.length := by simp [ics]
/-- Whole numbers that are read. -/
def RdN (w : World) (v : Value) (l : List Nat) : Prop := Rd w 1 v l.length (ics l)
theorem RdN.fr {w w' : World} {v : Value} {l : List Nat} (h : RdN w v l) (hf : Fr w w') : RdN w' v l := Rd.fr h hf

/-! ### What has been seen, and what was kept -/
def prAt (js : List Jt) (x : Nat) : Int × Int := ((js.getD x jd).1.ix, (js.getD x jd).1.sub)
def stepS (js : List Jt) (s : List (Int × Int) × List Nat) (x : Nat) : List (Int × Int) × List Nat := if prAt js x ∈ s.1 then s else (s.1 ++ [prAt js x], s.2 ++ [x])
def selS (js : List Jt) (pre : List Nat) : List (Int × Int) × List Nat := pre.foldl (stepS js) ([], [])
theorem selS_snoc (js : List Jt) (pre : List Nat) (x : Nat) : selS js (pre ++ [x]) = stepS js (selS js pre) x := by simp [selS]
theorem selS_len (js : List Jt) (pre : List Nat) : (selS js pre).2.length ≤ pre.length := by
  refine snoc_ind (P := fun pre => (selS js pre).2.length ≤ pre.length) (Nat.le_refl _) (fun l x ih => ?_) pre
  rw [selS_snoc]
  unfold stepS
  split
  · simp; omega
  · simp; omega
theorem sel_dn (js : List Jt) : ∀ k, k ≤ js.length → (∀ p, p ∈ (selS js (dn js.length k)).1 ↔ p ∈ ((jits js).drop (js.length - k)).map It.pr) ∧ (selS js (dn js.length k)).2 = (lastI (js.length - k) ((jits js).drop (js.length - k))).reverse
  | 0, _ => by
    have : (jits js).drop (js.length - 0) = [] := List.drop_of_length_le (by rw [jits_len]; omega)
    rw [this]
    simp [selS, dn, lastI]
  | k + 1, h => by
    obtain ⟨ih1, ih2⟩ := sel_dn js k (by omega)
    have hm : js.length - 1 - k = js.length - (k + 1) := by omega
    obtain ⟨m, hmm⟩ : ∃ m, m = js.length - (k + 1) := ⟨_, rfl⟩
    have hm1 : js.length - k = m + 1 := by omega
    rw [dn_succ, hm, ← hmm, selS_snoc]
    rw [hm1] at ih1 ih2
    have hlt : m < (jits js).length := by rw [jits_len]; omega
    have hd : (jits js).drop m = (jits js)[m] :: (jits js).drop (m + 1) := List.drop_eq_getElem_cons hlt
    have hp : prAt js m = ((jits js)[m]).pr := by
      have hl2 : m < js.length := by omega
      have he : (jits js)[m]? = some (js[m].1) := jits_at (List.getElem?_eq_getElem hl2)
      have he2 : (jits js)[m] = js[m].1 := Option.some.inj ((List.getElem?_eq_getElem hlt).symm.trans he)
      have he3 : js.getD m jd = js[m] := by rw [List.getD_eq_getElem?_getD, List.getElem?_eq_getElem hl2]; rfl
      unfold prAt
      rw [he2, he3]
      rfl
    rw [hd]
    unfold stepS lastI
    rw [hp]
    by_cases hin : ((jits js)[m]).pr ∈ ((jits js).drop (m + 1)).map It.pr
    · rw [if_pos ((ih1 _).2 hin), if_pos hin]
      refine ⟨fun p => ?_, ih2⟩
      rw [ih1, List.map_cons, List.mem_cons]
      constructor
      · exact .inr
      · rintro (rfl | h)
        · exact hin
        · exact h
    · rw [if_neg (fun hh => hin ((ih1 _).1 hh)), if_neg hin]
      refine ⟨fun p => ?_, ?_⟩
      · simp only [List.mem_append, ih1, List.map_cons, List.mem_cons, List.not_mem_nil, or_false]
        constructor
        · rintro (h | h)
          · exact .inr h
          · exact .inl h
        · rintro (h | h)
          · exact .inr h
          · exact .inl h
      · rw [ih2, List.reverse_cons]

/-! ### The loop -/
/-- What the loop keeps: B the first block of the call's own. -/
def LIs (B : Nat) (ks : List (Int × Int)) (out : List Nat) (w W : World) : Prop :=
  (∃ v, Boxed W (B + 1 + 1) 39 v ∧ W.ownsRow B 3 1 v out.length (ics out)) ∧ Boxed W (B + 1) 229 (.map (some B)) ∧ HasMap W B ks ∧ Below B w W ∧ ∃ u, Boxed W (B + 1 + 1 + 1) 23 u
def LI (js : List Jt) (w : World) (B : Nat) (pre : List Nat) (W : World) : Prop := LIs B (selS js pre).1 (selS js pre).2 w W
theorem HasMap.kept {W W' : World} {b : Nat} {ks : List (Int × Int)} (h : HasMap W b ks) (hk : W'.heap[b]? = W.heap[b]?) : HasMap W' b ks := by
  obtain ⟨es, c, h1, h2⟩ := h
  exact ⟨es, c, hk.trans h1, h2⟩
theorem below_setB {n b : Nat} {W W' : World} (h : Below n W W') (o : Obj) (hb : n ≤ b) : Below n W (setB W' b o) :=
  ⟨h.os, h.tape, h.output, by rw [setB_size]; exact h.size, fun k hk => (setB_far W' b k o (by omega)).trans (h.block k hk)⟩
theorem LIs.fr {B : Nat} {ks : List (Int × Int)} {out : List Nat} {w W W' : World} (h : LIs B ks out w W) (hf : Fr W W') (hB : B ≤ w.heap.size) : LIs B ks out w W' := by
  obtain ⟨⟨v, hv, ho⟩, hs, hm, hb, u, hu⟩ := h
  exact ⟨⟨v, hf.at_ hv, ownsRow_fr ho hf⟩, hf.at_ hs, hm.fr hf, hb.trans (RowKit.Below.mono hf (Nat.le_trans hB hb.size)), u, hf.at_ hu⟩
theorem LIs.setB {B : Nat} {ks ks' : List (Int × Int)} {out : List Nat} {w W : World} {o : Obj} (h : LIs B ks out w W) (hM : HasMap (setB W B o) B ks') (hB : B = w.heap.size) : LIs B ks' out w (setB W B o) := by
  obtain ⟨⟨v, hv, ho⟩, hs, hm, hb, u, hu⟩ := h
  have hne : v.ownBlock ≠ some B := fun hh => by
    obtain ⟨cur, hc⟩ := ownsRow_ty ho hh
    obtain ⟨es, c, h1, _⟩ := hm
    rw [hc] at h1
    cases h1
  refine ⟨⟨v, (setB_far W B _ o (by omega)).trans hv, ho.1, ho.2.imp id ?_⟩, (setB_far W B _ o (by omega)).trans hs, hM, ?_, u, (setB_far W B _ o (by omega)).trans hu⟩
  · rintro ⟨g, cap, cur, hvv, hlg, hg, r⟩
    exact ⟨g, cap, cur, hvv, hlg, (setB_far W B g o (fun hh => hne (by rw [hvv, ← hh]; rfl))).trans hg, r⟩
  · subst hB
    exact fr_setB hb o (Nat.le_refl _)
theorem LI.own (js : List Jt) (w : World) (B : Nat) (hB : B ≤ w.heap.size) : OwnFrom (B + 1 + 1 + 1 + 1) (LI js w B) := by
  rintro s X Y row ⟨⟨v, hv, ho⟩, hs, hm, hb, u, hu⟩ hg hr
  have hne : ∀ k, k < B + 1 + 1 + 1 + 1 → some k ≠ row := fun k hk e => by have := (hr k e.symm).1; omega
  refine ⟨⟨v, hv.kept hg (hne _ (by omega)), ho.kept hg ?_⟩, hs.kept hg (hne _ (by omega)), ?_, hb.grown hg (Nat.le_trans hB hb.size) (fun k e => by have := (hr k e).1; omega), u, hu.kept hg (hne _ (by omega))⟩
  · cases hvb : v.ownBlock with
    | none => exact .inl rfl
    | some g =>
      refine .inr fun e => ?_
      obtain ⟨cur, hc⟩ := ownsRow_ty ho hvb
      obtain ⟨_, o, ho', hcl⟩ := hr g e.symm
      rw [hc] at ho'
      cases ho'
      cases hcl
  · obtain ⟨es, c, h1, h2⟩ := hm
    exact ⟨es, c, (hg.block B (Array.getElem?_eq_some_iff.1 h1).1 (hne B (by omega))).trans h1, h2⟩

/-- What a round finds of its item. -/
def LA (js : List Jt) (B : Nat) (sv : Value) (x : Nat) (a' : Act) (W : World) : Prop :=
  ∃ Bx, B + 1 + 1 + 1 + 1 ≤ Bx ∧ W.heap[Bx]? = some (.cells #[.int .u16 (js.getD x jd).1.ix, .int .u8 (js.getD x jd).1.sub, (js.getD x jd).2] 50 (0, 0)) ∧
    a' = { tmps := #[sv, undef, .slice none 0 0, .pointer (some ⟨B + 1, 0, none⟩), .pointer (some ⟨B + 1 + 1, 0, none⟩), .int .i64 (x : Int), .pointer (some ⟨Bx, 0, none⟩), undef, .map (some B), sv, .func (.func 195) #[] #[.pointer (some ⟨B + 1 + 1 + 1, 0, none⟩)], .int .i64 (x : Int), jagg (js.getD x jd), undef, undef, undef, undef, undef, undef, undef, undef, undef, undef, undef, undef, undef, undef, undef, undef, undef, undef], defers := [] }
theorem LA.own (js : List Jt) (B : Nat) (sv : Value) (x : Nat) (a' : Act) (D : Nat) : OwnFrom D (fun (_ : Unit) W => LA js B sv x a' W) := by
  rintro _ X Y row ⟨Bx, h1, h2, h3⟩ hg hr
  refine ⟨Bx, h1, (hg.block Bx (Array.getElem?_eq_some_iff.1 h2).1 (fun e => ?_)).trans h2, h3⟩
  obtain ⟨_, o, ho, hc⟩ := hr Bx e.symm
  rw [h2] at ho
  cases ho
  cases hc

theorem keeps_setB (W : World) (b B : Nat) (o : Obj) (hb : b < B) : KeepsFrom B W (setB W b o) := ⟨by rw [setB_size]; exact Nat.le_refl _, fun k o' hk ho _ => (setB_far W b k o (by omega)).trans ho⟩

theorem own_cells {W : World} {B g n cap sz : Nat} {e : TypeId} {xs : List Value} (h : W.ownsRow B e sz (.slice (some ⟨g, 0, none⟩) n cap) n xs) : (∀ j u, xs[j]? = some u → W.cell? ⟨g, j, none⟩ = some u) ∧ (∀ j, W.frozen? ⟨g, j, none⟩ = false) ∧ g < W.heap.size ∧ B ≤ g := by
  obtain ⟨hl, h⟩ := h
  rcases h with ⟨h1, _⟩ | ⟨g', cap', cur, hv, hb, hg, hn, hm, hs, ht⟩
  · cases h1
  · have : g' = g := by injection hv with h1; injection h1 with h1; injection h1 with h1; exact h1.symm
    subst this
    refine ⟨fun j u hu => ?_, fun j => by simp [World.frozen?, hg], (Array.getElem?_eq_some_iff.1 hg).1, hb⟩
    rw [← ht] at hu
    rw [List.getElem?_take] at hu
    split at hu
    · simpa [World.cell?, hg] using hu
    · cases hu

theorem rev_any {W : World} {v : Value} {L : List Nat} {B : Nat} (ho : W.ownsRow B 3 1 v L.reverse.length (ics L.reverse)) (hlen : L.length ≤ 9223372036854775807) (hBs : B ≤ W.heap.size) :
    Calls Tryz.prog 152 #[v] W fun e W5 => e = .returned (.tuple #[]) ∧ (∀ k, some k ≠ v.ownBlock → W5.heap[k]? = W.heap[k]?) ∧ Below B W W5 ∧ RdN W5 v L ∧ W.heap.size ≤ W5.heap.size := by
  by_cases hz : L.length = 0
  · have hL : L = [] := List.eq_nil_of_length_eq_zero hz
    subst hL
    obtain ⟨A, cap, rfl⟩ : ∃ A cap, v = .slice A 0 cap := by
      rcases ho.2 with ⟨h1, _⟩ | ⟨g, cap, cur, hv, _⟩
      · exact ⟨_, _, h1⟩
      · exact ⟨_, _, hv⟩
    refine (Tryz.slices_Reverse_int_empty A cap W).mono ?_
    rintro e W5 ⟨rfl, rfl⟩
    exact ⟨rfl, fun _ _ => rfl, Below.refl _ _, Rd.of_own ho, Nat.le_refl _⟩
  · obtain ⟨g, cap, rfl, _, _⟩ := World.ownsRow.form ho (by rw [List.length_reverse]; omega)
    obtain ⟨hc, hf, hg, hBg⟩ := own_cells ho
    have hR := Rd.of_own ho
    have hrl : L.reverse.length = L.length := List.length_reverse
    have hz2 : ((L.reverse.map fun i : Nat => (i : Int))).length = L.length := by simp
    have hin : ∀ j, j < L.length → (ics L.reverse)[j]? = some (.int .i64 ((L.reverse.map fun i : Nat => (i : Int)).getD j 0)) := fun j hj => by
      have : j < L.reverse.length := by omega
      have hx := List.getElem?_eq_getElem this
      unfold ics
      rw [List.getElem?_map, hx, List.getD_eq_getElem?_getD, List.getElem?_map, hx]
      rfl
    rw [hrl]
    refine (Tryz.slices_Reverse_int_cells g 0 L.length cap (L.reverse.map fun i : Nat => (i : Int)) W (by omega) (by omega) (fun j hj => by rw [Nat.zero_add]; exact hc j _ (hin j (by omega))) (fun j _ => by rw [Nat.zero_add]; exact hf j)).mono ?_
    rintro e W5 ⟨rfl, q, rfl⟩
    have htk : ((L.reverse.map fun i : Nat => (i : Int)).take L.length).reverse.map (Value.int .i64) = ics L := by
      rw [List.take_of_length_le (by omega), ← List.map_reverse, List.reverse_reverse, List.map_map]
      rfl
    rw [htk]
    refine ⟨rfl, fun k hk => ?_, ?_, ?_, by rw [setCells_size]; exact Nat.le_refl _⟩
    · exact setCells_far g k (fun e => hk (by rw [e]; rfl)) _ _ _
    · have h1 : Below B W (W.drewN q) := below_drewN (Below.refl B W) q
      refine ⟨?_, ?_, ?_, by rw [setCells_size]; exact Nat.le_refl _, fun k hk => setCells_far g k (by omega) _ _ _⟩
      · exact setCells_os _ _ _ _
      · exact setCells_tape _ _ _ _
      · exact setCells_output _ _ _ _
    · obtain ⟨hl, A', c', hv, hn, hcap, _⟩ := hR
      injection hv with h1 h2 h3
      refine ⟨by rw [ics_len]; omega, _, _, rfl, by omega, by omega, .inr ⟨g, 0, rfl, by rw [setCells_size]; exact hg, fun j u hu => ?_⟩⟩
      have hj : j < (ics L).length := (List.getElem?_eq_some_iff.1 hu).1
      have := World.cell?_setCells_in g (ics L) 0 (W.drewN q) (fun i hi => by
        rw [ics_len] at hi
        have h5 := hc i _ (hin i hi)
        rw [Nat.zero_add]
        show (W.cell? ⟨g, i, none⟩).isSome = true
        rw [h5]; rfl) j hj
      rw [this, ← hu]
      exact (List.getElem?_eq_getElem hj).symm

end Go.Proofs.YtmllpkpdfhniaaaGreat

namespace Go.Proofs.YtmllpkpdfhniaaaGreat
open Go.RowKit Go.Shelf
attribute [local go_sem] Oper.semAt_some

theorem infoInt : (Tryz.prog.info? 3).map (fun i => (i.zero, i.size, i.bytes)) = some (some (.int .i64 0), 1, 8) := by kernel_rfl
theorem box3 {W : World} {B : Nat} {a b c : Value} {t : TypeId} (h : W.heap[B]? = some (.cells #[a, b, c] t (0, 0))) : W.cell? ⟨B, 0, none⟩ = some a ∧ W.cell? ⟨B, 1, none⟩ = some b ∧ W.cell? ⟨B, 2, none⟩ = some c := by simp [World.cell?, h]

theorem bv_getD {js : List Jt} (h : ∀ j ∈ js, ∃ (A : Option Addr) (n c : Nat), j.2 = .slice A n c) (x : Nat) : ∃ (A : Option Addr) (n c : Nat), (js.getD x jd).2 = .slice A n c := by
  rw [List.getD_eq_getElem?_getD]
  cases hx : js[x]? with
  | none => exact ⟨none, 0, 0, rfl⟩
  | some j => exact h j (List.mem_of_getElem? hx)

set_option maxRecDepth 100000 in
set_option maxHeartbeats 4000000 in
theorem lasts_walk (A : Option Addr) (cap : Nat) (js : List Jt) (w : World) (hbv : ∀ j ∈ js, ∃ (A : Option Addr) (n c : Nat), j.2 = .slice A n c) (hR : Rd w 3 (.slice A js.length cap) js.length (js.map jcells).flatten) (hreach : js.length * 8 ≤ 140737488355328 - 8) :
    CallsIn Fence.wide 5 Tryz.prog 97 #[.slice A js.length cap] w fun e W' => ∃ v, e = .returned v ∧ RdN W' v (lastI 0 (jits js)) ∧ Fr w W' := by
  have hro : Fence.wide.round = none := rfl
  have HBV := Lib.hid hbv
  clear hbv
  have hmm := @run_makeMap Tryz.prog
  have h8 : Fence.wide.fn 195 := trivial
  refine callsIn_of_wp_marks Tryz.func97 rfl trivial ?_ hro
  simp only [Tryz.ntmps97, List.size_toArray, List.length_cons, List.length_nil, Nat.reduceAdd, Nat.reduceSub, Array.replicate_succ, Array.replicate_zero, List.push_toArray, List.append_toArray, List.nil_append, List.cons_append]
  gi_wp2_with (refine ⟨trivial, ?_⟩; gi_at_call 151; refine (back_in Fence.wide (5 - 1) trivial hro _ _ _ _).mono ?_; rintro e w' ⟨rfl, rfl⟩)
  have hF0 : Fr w ((((w.alloc (.map #[] 0)).alloc (.cells #[.map (some w.heap.size)] 229)).alloc (.cells #[.slice none 0 0] 39)).alloc (.cells #[.slice A js.length cap] 23)) := by (repeat (with_reducible first | exact Fr.refl _ | assumption | refine Fr.alloc ?_ _ | refine Fr.drew ?_ | refine Fr.drewN ?_ _ | refine Fr.set ?_ (by first | (simp; done) | (simp; omega)) _ | refine Fr.trans ?_ (by assumption)))
  have bN := Boxed.new (((w.alloc (.map #[] 0)).alloc (.cells #[.map (some w.heap.size)] 229)).alloc (.cells #[.slice none 0 0] 39)) 23 (.slice A js.length cap)
  have bO := Boxed.new ((w.alloc (.map #[] 0)).alloc (.cells #[.map (some w.heap.size)] 229)) 39 (.slice none 0 0)
  have bS := Boxed.new (w.alloc (.map #[] 0)) 229 (.map (some w.heap.size))
  simp only [World.size_alloc] at bN bO bS
  have hM0 : HasMap (w.alloc (.map #[] 0)) w.heap.size [] := HasMap.made w
  have h0 : LI js w w.heap.size [] ((((w.alloc (.map #[] 0)).alloc (.cells #[.map (some w.heap.size)] 229)).alloc (.cells #[.slice none 0 0] 39)).alloc (.cells #[.slice A js.length cap] 23)) :=
    ⟨⟨_, bO.alloc _, World.ownsRow_nil _ _ _ _⟩, (bS.alloc _).alloc _, ((hM0.fr ((Fr.refl _).alloc _)).fr ((Fr.refl _).alloc _)).fr ((Fr.refl _).alloc _), hF0, _, bN⟩
  have hstops := back_stops Fence.wide (5 - 1) h8 hro (by omega) (w.heap.size + 1 + 1 + 1) w.heap.size (.slice A js.length cap) js (by omega) _ (by simp) (by simp; omega) bN.cell (hR.fr hF0) (by
    obtain ⟨_, A', c', hv, _, _, hh⟩ := hR
    cases hv
    rintro g hg hz
    rcases hh with h1 | ⟨b, o, hA, hb, _⟩
    · exact absurd h1 hz
    · rw [hA] at hg
      have : b = g := by simpa [Value.ownBlock] using hg
      omega)
  obtain ⟨W0, hW0⟩ : ∃ W0, W0 = ((((w.alloc (.map #[] 0)).alloc (.cells #[.map (some w.heap.size)] 229)).alloc (.cells #[.slice none 0 0] 39)).alloc (.cells #[.slice A js.length cap] 23)) := ⟨_, rfl⟩
  have hz0 : W0.heap.size = w.heap.size + 1 + 1 + 1 + 1 := by rw [hW0]; simp
  rw [← hW0] at hF0 bN h0 hstops ⊢
  clear hW0 bO bS hM0
  refine wpIn_rangeFunc_ownH hro (by omega) (gf := 195) (lb := #[.pointer (some ⟨w.heap.size + 1 + 1 + 1, 0, none⟩)]) rfl h8 (enters_of Tryz.func195 (by kernel_rfl) rfl)
    hstops (fun h k => h.trans k) (Kq.put (by omega) (by omega)) (Below.refl _ _) (fun _ => rfl)
    (LI js w w.heap.size) (fun _ _ _ => False) (by rw [hz0]; exact LI.own js w _ (Nat.le_refl _)) (fun _ _ _ _ _ hs _ _ => hs) h0 (LA js w.heap.size (.slice A js.length cap)) (fun x a' => LA.own _ _ _ _ _ _) ?assign ?body ?done ?stop
  case assign =>
    intro l pre x W K hi hK
    have HK := Lib.hid hK
    have HI := Lib.hid hi
    clear hK hi
    dsimp only
    obtain ⟨A2, n2, c2, hb2⟩ := bv_getD HBV.out x
    obtain ⟨j, hj⟩ : ∃ j, j = js.getD x jd := ⟨_, rfl⟩
    rw [← hj] at hb2 ⊢
    have HJ := Lib.hid hj
    clear hj
    obtain ⟨⟨ix, sub, bl⟩, bv⟩ := j
    dsimp only at hb2
    subst hb2
    unfold jagg
    dsimp only
    gi_wp2
    have hfr : Fr W (W.alloc (.cells #[.int .u16 ix, .int .u8 sub, .slice A2 n2 c2] 50)) := (Fr.refl _).alloc _
    have hLI := HI.out
    have hsz := hLI.2.2.2.1.size
    obtain ⟨_, hbk⟩ := hLI.2.2.2.2
    have hlt3 := hbk.lt
    refine HK.out _ _ ((KeepsOthers.alloc _ _).from _) ⟨?_, ?_⟩ ?_ ⟨W.heap.size, ?_, ?_, ?_⟩
    · exact (Below.refl _ W).alloc hsz _
    · exact heapOld _ _ _ hlt3
    · exact LIs.fr hLI hfr (Nat.le_refl _)
    · exact hlt3
    · rw [← HJ.out]
      exact heap_alloc_new _ _
    · rw [← HJ.out]
      rfl
  case body =>
    rintro l pre x a' W hl ⟨r, hr⟩ hi ⟨Bx, hBx, hX, rfl⟩ hlt
    clear hstops h0 hR
    have hp : prAt js x = ((js.getD x jd).1.ix, (js.getD x jd).1.sub) := rfl
    have hst := selS_snoc js pre x
    have hsl := selS_len js pre
    unfold stepS at hst
    rw [hp] at hst
    obtain ⟨A2, n2, c3, hb2⟩ := bv_getD HBV.out x
    obtain ⟨j, hj⟩ : ∃ j, j = js.getD x jd := ⟨_, rfl⟩
    rw [← hj] at hX hst hb2 ⊢
    have HJ := Lib.hid hj
    clear hj hp
    obtain ⟨⟨ix, sub, bl⟩, bv⟩ := j
    dsimp only at hX hst hb2
    subst hb2
    unfold jagg
    dsimp only
    have HL := Lib.hid hi
    obtain ⟨⟨v, hv, ho⟩, hs, hm, hb, uk, hbk⟩ := hi
    have hz4 := hbk.lt
    obtain ⟨c0, c1, c2⟩ := box3 hX
    have HX := Lib.hid hX
    have hM1 := hm.fr ((Fr.refl W).alloc (.cells #[.int .u16 ix, .int .u8 sub] 234))
    have hl1 := look_plD hM1 ix sub
    have cS := (hs.alloc (.cells #[.int .u16 ix, .int .u8 sub] 234)).cell
    have cO := (hv.alloc (.cells #[.int .u16 ix, .int .u8 sub] 234)).cell
    have hsz := hb.size
    have HM := Lib.hid hm
    have HST := Lib.hid hst
    clear hX hm hst hr hl
    by_cases hin : (ix, sub) ∈ (selS js pre).1
    · simp only [hin, decide_true] at hl1
      obtain ⟨es, cl, hu, hM2⟩ := upd_plD hM1 ix sub
      rw [if_pos hin] at hM2
      have HM2 := Lib.hid hM2
      clear hM2
      gi_wp2
      have hfr : Fr W (W.alloc (.cells #[.int .u16 ix, .int .u8 sub] 234)) := (Fr.refl _).alloc _
      have hne3 : w.heap.size + 1 + 1 + 1 ≠ w.heap.size := by omega
      refine ⟨((KeepsOthers.alloc _ _).from _).trans (keeps_setB _ _ _ _ (by omega)), ⟨below_setB ((Below.refl _ W).alloc hsz _) _ (Nat.le_refl _), (setB_far _ _ _ _ hne3).trans (heapOld _ _ _ hz4)⟩, ?_⟩
      unfold LI
      rw [HST.out, if_pos hin]
      exact LIs.setB (HL.out.fr hfr (Nat.le_refl _)) HM2.out rfl
    · simp only [hin, decide_false] at hl1
      obtain ⟨i0, hi0, hiz0, hiz1, hiz2⟩ := info_parts infoInt
      have ho1 := ownsRow_fr ho ((Fr.refl W).alloc (.cells #[.int .u16 ix, .int .u8 sub] 234))
      have hv1 := hv.alloc (.cells #[.int .u16 ix, .int .u8 sub] 234)
      have HM1 := Lib.hid hM1
      have hvne := hv1.not_row (by decide) ho1
      have hBne : some w.heap.size ≠ v.ownBlock := fun hh => by
        obtain ⟨cur, hc⟩ := ownsRow_ty ho hh.symm
        obtain ⟨es, c, h1, _⟩ := HM.out
        rw [hc] at h1
        cases h1
      have hKne : some (w.heap.size + 1 + 1 + 1) ≠ v.ownBlock := hbk.not_row (by decide) ho
      have hs1 := hs.alloc (.cells #[.int .u16 ix, .int .u8 sub] 234)
      have hsne := hs1.not_row (by decide) ho1
      have hPne : some W.heap.size ≠ v.ownBlock := fun hh => by have := (ho.lt _ hh.symm).2; omega
      have hPl : (W.alloc (.cells #[.int .u16 ix, .int .u8 sub] 234)).heap[W.heap.size]? = some (.cells #[.int .u16 ix, .int .u8 sub] 234 (0, 0)) := heap_alloc_new _ _
      have HPl := Lib.hid hPl
      clear hPl
      clear hM1
      gi_wp2_with (gi_at_builtin; refine wpListIn_append_own _ rfl _ _ 39 rfl w.heap.size 3 i0 (.int .i64 0) 1 8 Tryz.underlying39 hi0 hiz0 hiz1 hiz2 rfl (by decide) _ _ _ rfl (ho1.alloc _) ⟨W.heap.size + 1, 0, none⟩ 1 1 [.int .i64 (x : Int)] rfl rfl (by have := cell_one_new (W.alloc (.cells #[.int .u16 ix, .int .u8 sub] 234)) (.int .i64 (x : Int)) 3; rw [World.size_alloc] at this; exact this) (by simp [Value.oneCell']) (by simp only [maxLen]; omega) (by omega) (by simp; omega) ?_; intro v' w1 hown' hgrow _; obtain ⟨g', cap', rfl⟩ := ownsRow_succ hown'; obtain ⟨hv3, hv2, hr2, hk2, hb2⟩ := hv1.appended (by decide) ho1 (by simp; omega) (by omega) hown' hgrow; have hc1 := hv3.cell; have hf1 := hv3.frozen; have hs3 := (hs1.alloc _).kept hgrow hsne; have cS3 := hs3.cell; have hP3 : w1.heap[W.heap.size]? = some (.cells #[.int .u16 ix, .int .u8 sub] 234 (0, 0)) := (hgrow.block _ (by simp; omega) hPne).trans ((heapOld _ _ _ (by simp)).trans HPl.out); have cP0 := cell0 hP3; have cP1 := cell1 hP3; have hM3 := HM1.out.kept (W' := w1) ((hgrow.block _ (by simp; omega) hBne).trans (heapOld _ _ _ (by simp; omega))); have hM4 := hM3.kept (W' := w1.setCell ⟨w.heap.size + 1 + 1, 0, none⟩ (.slice (some ⟨g', 0, none⟩) ((selS js pre).2.length + 1) cap')) (heap_setCell_other _ _ _ _ (by show w.heap.size ≠ w.heap.size + 1 + 1; omega)); obtain ⟨es, cl, hu, hM2⟩ := upd_plD hM4 ix sub; have HM2 := Lib.hid hM2; have HHG := Lib.hid hgrow; clear hM2 hgrow hP3)
      have hne3 : w.heap.size + 1 + 1 + 1 ≠ w.heap.size := by omega
      have hne4 : w.heap.size + 1 + 1 + 1 ≠ w.heap.size + 1 + 1 := by omega
      have hkk := (HHG.out.block (w.heap.size + 1 + 1 + 1) (by simp; omega) hKne).trans ((heapOld _ _ _ (by simp; omega)).trans (heapOld _ _ _ hz4))
      refine ⟨(((KeepsOthers.alloc _ _).trans hk2).from _).trans (keeps_setB _ _ _ _ (by omega)), ⟨below_setB (((Below.refl _ W).alloc hsz _).trans hb2) _ (Nat.le_refl _), (setB_far _ _ _ _ hne3).trans ((heap_setCell_other _ _ _ _ hne4).trans hkk)⟩, ?_⟩
      have hMf := HM2.out
      rw [if_neg hin] at hMf
      unfold LI
      rw [HST.out, if_neg hin]
      refine LIs.setB ⟨⟨_, hv2, ?_⟩, hs3.other (by omega) _, hM4, hb.trans (((Below.refl _ W).alloc hsz _).trans hb2), uk, (heap_setCell_other _ _ _ _ hne4).trans (hkk.trans hbk)⟩ hMf rfl
      have := hr2
      simpa [ics] using this
  case done =>
    rintro D ys W hD rfl ⟨⟨v, hv, ho⟩, hs, hm, hb, uk, hbk⟩ hK
    have hsel := (sel_dn js js.length (Nat.le_refl _)).2
    rw [Nat.sub_self, List.drop_zero] at hsel
    rw [hsel] at ho
    have hll := lastI_len (jits js) 0
    rw [jits_len] at hll
    have HR := rev_any (L := lastI 0 (jits js)) ho (by omega) hb.size
    have hne : some (w.heap.size + 1 + 1) ≠ v.ownBlock := hv.not_row (by decide) ho
    have hDne : some D ≠ v.ownBlock := fun hh => by
      obtain ⟨cur, hc⟩ := ownsRow_ty ho hh.symm
      rw [hK] at hc
      cases hc
    have cO := hv.cell
    have HV := Lib.hid hv
    have HDK := Lib.hid hK
    clear hm hs hsel ho hstops h0 hR hv hK
    gi_wp2_with (refine ⟨trivial, ?_⟩; gi_at_call 152; refine (callsIn_wide.2 HR).mono ?_; rintro e W5 ⟨rfl, hk5, hb5, hr5, hz5⟩; have cO5 : W5.cell? ⟨w.heap.size + 1 + 1, 0, none⟩ = some v := (World.cell?_of_block (a := ⟨w.heap.size + 1 + 1, 0, none⟩) (hk5 _ hne)).trans cO; have hK5 : W5.heap[D]? = some (.deferred (some [])) := (hk5 _ hDne).trans HDK.out; have HK5 := Lib.hid hk5; clear hk5)
    refine ⟨by simp, .inl ⟨_, _, rfl, run_takeDeferred hK5, ?_⟩⟩
    refine ⟨_, results_tmp rfl _ _ _, v, rfl, Rd.grown hr5 (grownBy_putObj' _ D _) (fun g hg hh => hDne (by rw [hg]; exact hh.symm)), (hb.trans hb5).trans (belowK_b (w := w) (Nat.le_refl _) W5 D _ _ (by omega) hK5 rfl rfl)⟩
  case stop =>
    rintro D c pre W _ _ h _
    exact h.elim

end Go.Proofs.YtmllpkpdfhniaaaGreat
