/- The document's dictionary (ref08): New; the statements' Begins. -/
import Derived.Test.YtmllpkpdfhniaaaGreatJBRgE
import Derived.Test.YtmllpkpdfhniaaaGreatJAOdF
set_option linter.unusedVariables false
set_option linter.unusedSimpArgs false
namespace Go.Proofs.YtmllpkpdfhniaaaGreat
open Go.RowKit Go.Sort

theorem rnew_bad (l : List E) (hwf : ∀ e ∈ l, e.wf) (v : Value) (w : World) (h : RdE w v l) (hc : chkL l ≠ 0) : Calls Tryz.prog 90 #[v] w fun e w' => e = .returned (.tuple #[.pointer none, .int .i64 (chkL l)]) ∧ Fr w w' := by
  have HC := fun w' (hf : Fr w w') => rdCheck_any l hwf v w' (h.fr hf)
  have hc' := bne_true hc
  obtain ⟨hl, A, c, rfl, hn, hcap, hx⟩ := h
  clear hx hc
  generalize chkL l = r at *
  go_enter Tryz.func90, Tryz.ntmps90
  go_wp2_with (first | (go_at_call 142; refine (HC _ (by (repeat (with_reducible first | exact Fr.refl _ | assumption | refine Fr.alloc ?_ _ | refine Fr.drew ?_ | refine Fr.drewN ?_ _ | refine Fr.set ?_ (by first | (simp; done) | (simp; omega)) _ | refine Fr.trans ?_ (by assumption))))).mono ?_; rintro e w1 ⟨rfl, hF1⟩; have hz1 := hF1.size; (try simp at hz1); have hc1 := hF1.cells; have hf1 := hF1.froz))
  go_ret2
  exact ⟨rfl, by (repeat (with_reducible first | exact Fr.refl _ | assumption | refine Fr.alloc ?_ _ | refine Fr.drew ?_ | refine Fr.drewN ?_ _ | refine Fr.set ?_ (by first | (simp; done) | (simp; omega)) _ | refine Fr.trans ?_ (by assumption)))⟩
set_option maxHeartbeats 1000000 in
theorem rnew_nil (A : Option Addr) (c : Nat) (w : World) (HC : ∀ w', Fr w w' → Calls Tryz.prog 142 #[.slice A 0 c] w' fun e w'' => e = .returned (.int .i64 0) ∧ Fr w' w'') :
    Calls Tryz.prog 90 #[.slice A 0 c] w fun e w' => RMade w [] e w' := by
  have HR := fun (D : Nat) (w : World) (hd : w.heap[D]? = some (.cells #[.slice none 0 0, .slice none 0 0] 175 (0, 0))) => rreset_nil D none 0 (.slice none 0 0) w hd
  go_enter Tryz.func90, Tryz.ntmps90
  go_wp2_with (first | (go_at_call 142; refine (HC _ (by (repeat (with_reducible first | exact Fr.refl _ | assumption | refine Fr.alloc ?_ _ | refine Fr.drew ?_ | refine Fr.drewN ?_ _ | refine Fr.set ?_ (by first | (simp; done) | (simp; omega)) _ | refine Fr.trans ?_ (by assumption))))).mono ?_; rintro e w1 ⟨rfl, hF1⟩; have hz1 := hF1.size; (try simp at hz1); have hc1 := hF1.cells; have hf1 := hF1.froz) | fail)
  clear HC
  refine wp_loop_rounds 1 ?_
  rw [rounds_succ]
  go_wp2_with (go_at_call 144; refine (HR _ _ (heap_alloc_new _ _)).mono ?_; rintro e w5 ⟨rfl, hd5, hc5⟩)
  go_ret2
  have hF5 : Fr w w5 := Chg.fr (hF1.alloc _) hc5 hz1
  exact ⟨w1.heap.size, _, _, rfl, hz1, ⟨hd5, Rd.nil _ _, Rd.nil _ _, by simp [Value.ownBlock], by simp [Value.ownBlock]⟩, by simp [Value.ownBlock], by simp [Value.ownBlock], hF5⟩

/-- ref08's New. -/
theorem rNew_any (l : List E) (hwf : ∀ e ∈ l, e.wf) (v : Value) (w : World) (h : RdE w v l) :
    Calls Tryz.prog 90 #[v] w fun e w' => (chkL l ≠ 0 ∧ e = .returned (.tuple #[.pointer none, .int .i64 (chkL l)]) ∧ Fr w w') ∨ (chkL l = 0 ∧ RMade w l e w') := by
  by_cases hc : chkL l = 0
  · have HC := fun w' (hf : Fr w w') => rdCheck_any l hwf v w' (h.fr hf)
    rw [hc] at HC
    obtain ⟨h1, h2⟩ := chkL_0 hc
    obtain ⟨hl, A, c, rfl, hn, hcap, hx⟩ := h
    refine Calls.mono ?_ fun e w' h => Or.inr ⟨hc, h⟩
    rcases hx with hx | ⟨b, o, rfl, hb, hx⟩
    · have : l = [] := List.eq_nil_of_length_eq_zero hx
      subst this
      exact rnew_nil A c w HC
    · exact rnew_walk l hwf b o c hn (by omega) w hb hx HC
  · exact (rnew_bad l hwf v w h hc).mono fun e w' h => Or.inl ⟨hc, h⟩

theorem sorted_perm_eq {α : Type} (f : α → Int) : ∀ {l1 l2 : List α}, l1.Perm l2 → (l1.map f).Pairwise (· < ·) → (l2.map f).Pairwise (· < ·) → l1 = l2
  | [], l2, hp, _, _ => (List.Perm.nil_eq hp)
  | x :: t, [], hp, _, _ => absurd hp.length_eq (by simp)
  | x :: t, y :: s, hp, h1, h2 => by
    rw [List.map_cons, List.pairwise_cons] at h1 h2
    have hxy : x = y := by
      have hx : x ∈ y :: s := hp.mem_iff.1 List.mem_cons_self
      have hy : y ∈ x :: t := hp.mem_iff.2 List.mem_cons_self
      rcases List.mem_cons.1 hx with h | h
      · exact h
      · rcases List.mem_cons.1 hy with h' | h'
        · exact h'.symm
        · have a := h2.1 _ (List.mem_map_of_mem h)
          have b := h1.1 _ (List.mem_map_of_mem h')
          omega
    subst hxy
    rw [sorted_perm_eq f (List.Perm.cons_inv hp) h1.2 h2.2]

/-- A pair of dictionaries, the program's and the document's, of the same entries and values. -/
structure PP (w : World) (pb db lo hi : Nat) (vl : Value) (its : List (Nat × E × V)) (rb : Nat) (lv vv : Value) : Prop where
  p : w.heap[pb]? = some (.cells #[.pointer (some ⟨db, 0, none⟩), .pointer (some ⟨rb, 0, none⟩)] 34 (0, 0))
  P : PD w db lo hi vl its
  S : PS its
  R : RD w rb lv vv (its.map (·.2))
  hp : hi ≤ pb
  hr : hi ≤ rb
  ne : pb ≠ rb
  hl : ∀ g, lv.ownBlock = some g → hi ≤ g ∧ g ≠ pb
  hv : ∀ g, vv.ownBlock = some g → hi ≤ g ∧ g ≠ pb
theorem PP.fr {w w' : World} {pb db lo hi : Nat} {vl : Value} {its : List (Nat × E × V)} {rb : Nat} {lv vv : Value} (h : PP w pb db lo hi vl its rb lv vv) (hf : Fr w w') : PP w' pb db lo hi vl its rb lv vv :=
  ⟨hf.at_ h.p, h.P.fr hf, h.S, h.R.fr hf, h.hp, h.hr, h.ne, h.hl, h.hv⟩

/-- What Begins hands back where the entries can be a dictionary. -/
def Begun (w : World) (l : List E) (e : Ending) (w' : World) : Prop := ∃ pb db lo hi vl its rb lv vv, e = .returned (.tuple #[.pointer (some ⟨pb, 0, none⟩), .bool true]) ∧ w.heap.size ≤ lo ∧ PP w' pb db lo hi vl its rb lv vv ∧ its.map (·.2) = (insL l).map (fun e => (e, e.df)) ∧ Fr w w'

theorem made_its {its : List (Nat × E × V)} {l : List E} (hp : (its.map (·.2)).Perm (l.map fun e => (e.pln, plainV e.df))) (hs : (its.map plS).Pairwise (· < ·)) (hd : (l.map E.pl).Nodup) : its.map (·.2) = (insL l).map (fun e => (e, e.df)) := by
  refine sorted_perm_eq (fun x : E × V => x.1.pl) (hp.trans ?_) ?_ ?_
  · have h1 := (insL_perm l).symm.map (fun e : E => (e, e.df))
    rw [List.map_map] at h1
    exact h1
  · rw [List.map_map]; exact hs
  · rw [List.map_map]; exact insL_sorted l hd
theorem made_PS {its : List (Nat × E × V)} {l : List E} (h : its.map (·.2) = (insL l).map (fun e => (e, e.df))) (hs : (its.map plS).Pairwise (· < ·)) (hwf : ∀ e ∈ l, e.wf) (hlen : l.length ≤ 1024) : PS its := by
  have hm : ∀ x ∈ its, ∃ e ∈ insL l, x.2 = (e, e.df) := fun x hx => by
    have h1 : x.2 ∈ its.map (·.2) := List.mem_map_of_mem hx
    rw [h] at h1
    obtain ⟨e, he, hee⟩ := List.mem_map.1 h1
    exact ⟨e, he, hee.symm⟩
  refine ⟨?_, fun x hx => ?_, fun x hx => ?_, hs⟩
  · have := congrArg List.length h
    rw [List.length_map, List.length_map, insL_len] at this
    omega
  · obtain ⟨e, he, hee⟩ := hm x hx
    rw [hee]; exact insL_wf hwf e he
  · obtain ⟨e, he, hee⟩ := hm x hx
    rw [hee]; exact (insL_wf hwf e he).2.2.2.2

theorem empty_E (w : World) : (w.alloc (.cells #[] 46)).ownsRow w.heap.size 46 14 (.slice (some ⟨w.heap.size, 0, none⟩) 0 0) 0 [] := World.ownsRow_made w #[] 0 (Nat.le_refl _) (by simp [maxLen]) (by simp)

set_option maxHeartbeats 2000000 in
/-- law08's Begins. -/
theorem begins_any (l : List E) (hwf : ∀ e ∈ l, e.wf) (v : Value) (w : World) (h : RdE w v l) (hlen : l.length * 120 ≤ 140737488355328) :
    Calls Tryz.prog 21 #[v] w fun e w' => (chkL l ≠ 0 ∧ e = .returned (.tuple #[.pointer none, .bool true]) ∧ Fr w w') ∨ (chkL l = 0 ∧ Begun w l e w') := by
  have HN := fun (v : Value) (w : World) (h : RdE w v l) => odNew_any l hwf v w h
  have HR := fun (w' : World) (hf : Fr w w') => rNew_any l hwf v w' (h.fr hf)
  have HK := fun (w' : World) (hf : Fr w w') => odCheck_any l hwf v w' (h.fr hf)
  have HH := Lib.hid h
  have HW := Lib.hid hwf
  obtain ⟨_, A, c, rfl, _, _, _⟩ := h
  clear hwf
  obtain ⟨i0, hi0, hiz0, hiz1, hiz2⟩ := info_parts infoEntry
  by_cases hc : chkL l = 0
  · have HC := Lib.hid hc
    rw [hc] at HK
    go_enter Tryz.func21, Tryz.ntmps21
    go_wp2_with (first | (at_builtin; refine wpList_append_rd _ (by rfl) (.tmp 9) (.tmp 10) _ (by rfl) w.heap.size 46 i0 _ 14 120 Tryz.underlying22 hi0 hiz0 hiz1 hiz2 rfl (by omega) (.slice (some ⟨w.heap.size, 0, none⟩) 0 0) 0 [] (by rfl) (empty_E w) (.slice A l.length c) l.length (l.map E.cells).flatten (by rfl) (Rd.fr HH.out (by (repeat (with_reducible first | exact Fr.refl _ | assumption | refine Fr.alloc ?_ _ | refine Fr.drew ?_ | refine Fr.drewN ?_ _ | refine Fr.set ?_ (by first | (simp; done) | (simp; omega)) _ | refine Fr.trans ?_ (by assumption))))) (ecs_one l) (by simp only [maxLen]; omega) (by omega) (by simp) ?_; intro v1 w1 hO1 hg1; have hF1 : Fr w w1 := Fr.grown (by (repeat (with_reducible first | exact Fr.refl _ | assumption | refine Fr.alloc ?_ _ | refine Fr.drew ?_ | refine Fr.drewN ?_ _ | refine Fr.set ?_ (by first | (simp; done) | (simp; omega)) _ | refine Fr.trans ?_ (by assumption)))) hg1 (fun r hr => by simp [Value.ownBlock] at hr; omega); have HO1 := Lib.hid hO1; clear hO1 hg1) | fail)
    have hR1 : RdE w1 v1 l := by have := Rd.of_own HO1.out; rwa [Nat.zero_add, List.nil_append] at this
    refine (HN v1 w1 hR1).mono ?_
    rintro e w2 (⟨h0, _⟩ | ⟨_, db, lo, hi, vl, its, rfl, hlo, hP2, hpm, hps, hF2⟩)
    · exact absurd HC.out h0
    have HP2 := Lib.hid hP2
    have HPM := Lib.hid hpm
    have HPS := Lib.hid hps
    clear hP2 hpm hps
    go_wp2_with fail
    refine (HR w2 (hF1.trans hF2)).mono ?_
    rintro e w3 (⟨h0, _⟩ | ⟨_, rb, lv, vv, rfl, hrb, hR3, hlv, hvv, hF3⟩)
    · exact absurd HC.out h0
    have HR3 := Lib.hid hR3
    have HLV := Lib.hid hlv
    have HVV := Lib.hid hvv
    clear hR3 hlv hvv
    have hF13 := (hF1.trans hF2).trans hF3
    go_wp2_with fail
    refine (HK w3 hF13).mono ?_
    rintro e w4 ⟨rfl, hF4⟩
    go_wp2_with fail
    have hz1 := hF1.size
    have hz2 := hF2.size
    have hz3 := hF3.size
    have hz4 := hF4.size
    obtain ⟨hl1, hl2⟩ := chkL_0 HC.out
    obtain ⟨_, hl4⟩ := firstE_0 l [] hl2
    have hits := made_its HPM.out HPS.out hl4
    have hPS := made_PS hits HPS.out HW.out hl1
    have htop := HP2.out.top
    have hrlt := (Array.getElem?_eq_some_iff.1 HR3.out.d).1
    have hR3' : RD w3 rb lv vv (its.map (·.2)) := by rw [hits]; exact HR3.out
    have hpb : w4.heap.size ≠ rb := by omega
    have hF24 : Fr w (w4.alloc (.cells #[.pointer (some ⟨db, 0, none⟩), .pointer (some ⟨rb, 0, none⟩)] 34)) := (hF13.trans hF4).alloc _
    have hP4 : PD (w4.alloc (.cells #[.pointer (some ⟨db, 0, none⟩), .pointer (some ⟨rb, 0, none⟩)] 34)) db lo hi vl its := HP2.out.fr ((hF3.trans hF4).alloc _)
    have hR4 := hR3'.fr (hF4.alloc (.cells #[.pointer (some ⟨db, 0, none⟩), .pointer (some ⟨rb, 0, none⟩)] 34))
    have hlb : ∀ g, lv.ownBlock = some g → hi ≤ g ∧ g ≠ w4.heap.size := fun g hg => by have := HLV.out g hg; omega
    have hvb : ∀ g, vv.ownBlock = some g → hi ≤ g ∧ g ≠ w4.heap.size := fun g hg => by have := HVV.out g hg; omega
    have hlo2 : w.heap.size ≤ lo := by omega
    have hhp : hi ≤ w4.heap.size := by omega
    have hhr : hi ≤ rb := by omega
    exact bodyPost_ret (v := .tuple #[.pointer (some ⟨w4.heap.size, 0, none⟩), .bool true]) (by simp [results, Tryz.results21, go_sem]) rfl (Or.inr ⟨HC.out, w4.heap.size, db, lo, hi, vl, its, rb, lv, vv, rfl, hlo2, ⟨heap_alloc_new _ _, hP4, hPS, hR4, hhp, hhr, hpb, hlb, hvb⟩, hits, hF24⟩)
  · have hc' := bne_true hc
    have HC := Lib.hid hc
    generalize hcc : chkL l = cc at *
    have HCC := Lib.hid hcc
    clear hc hcc
    go_enter Tryz.func21, Tryz.ntmps21
    go_wp2_with (first | (at_builtin; refine wpList_append_rd _ (by rfl) (.tmp 9) (.tmp 10) _ (by rfl) w.heap.size 46 i0 _ 14 120 Tryz.underlying22 hi0 hiz0 hiz1 hiz2 rfl (by omega) (.slice (some ⟨w.heap.size, 0, none⟩) 0 0) 0 [] (by rfl) (empty_E w) (.slice A l.length c) l.length (l.map E.cells).flatten (by rfl) (Rd.fr HH.out (by (repeat (with_reducible first | exact Fr.refl _ | assumption | refine Fr.alloc ?_ _ | refine Fr.drew ?_ | refine Fr.drewN ?_ _ | refine Fr.set ?_ (by first | (simp; done) | (simp; omega)) _ | refine Fr.trans ?_ (by assumption))))) (ecs_one l) (by simp only [maxLen]; omega) (by omega) (by simp) ?_; intro v1 w1 hO1 hg1; have hF1 : Fr w w1 := Fr.grown (by (repeat (with_reducible first | exact Fr.refl _ | assumption | refine Fr.alloc ?_ _ | refine Fr.drew ?_ | refine Fr.drewN ?_ _ | refine Fr.set ?_ (by first | (simp; done) | (simp; omega)) _ | refine Fr.trans ?_ (by assumption)))) hg1 (fun r hr => by simp [Value.ownBlock] at hr; omega); have HO1 := Lib.hid hO1; clear hO1 hg1) | fail)
    have hR1 : RdE w1 v1 l := by have := Rd.of_own HO1.out; rwa [Nat.zero_add, List.nil_append] at this
    refine (HN v1 w1 hR1).mono ?_
    rintro e w2 (⟨_, rfl, hF2⟩ | ⟨h0, _⟩)
    · go_wp2_with fail
      refine (HR w2 (hF1.trans hF2)).mono ?_
      rintro e w3 (⟨_, rfl, hF3⟩ | ⟨h0, _⟩)
      · have hF13 := (hF1.trans hF2).trans hF3
        go_wp2_with fail
        refine (HK w3 hF13).mono ?_
        rintro e w4 ⟨rfl, hF4⟩
        go_wp2_with fail
        go_ret2
        exact .inl ⟨HC.out, rfl, hF13.trans hF4⟩
      · exact absurd h0 HC.out
    · exact absurd h0 HC.out

end Go.Proofs.YtmllpkpdfhniaaaGreat
