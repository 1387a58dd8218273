/- The program's od.find. The program's od: Read, Get, Entry. -/
import Derived.Test.YtmllpkpdfhniaaaGreatJAOdI
set_option linter.unusedVariables false
set_option linter.unusedSimpArgs false
namespace Go.Proofs.YtmllpkpdfhniaaaGreat
open Go.RowKit Go.Sort
attribute [local irreducible] Go.wpQuiet

def hasIx (its : List (Nat × E × V)) (px : Int) : Bool := its.any fun x => x.2.1.ix == px

theorem ix_nil (A : Option Addr) (c : Nat) (f : Value) (w : World) : Calls Tryz.prog 199 #[.slice A 0 c, f] w fun e w' => e = .returned (.int .i64 (-1)) ∧ Fr w w' := by
  go_enter Tryz.func199, Tryz.ntmps199
  go_wp2
  refine wp_loop_rounds 1 ?_
  rw [rounds_succ]
  go_wp2
  go_ret
  exact ⟨rfl, by (repeat (with_reducible first | exact Fr.refl _ | assumption | refine Fr.alloc ?_ _ | refine Fr.drew ?_ | refine Fr.drewN ?_ _ | refine Fr.set ?_ (by first | (simp; done) | (simp; omega)) _ | refine Fr.trans ?_ (by assumption)))⟩

set_option maxHeartbeats 1000000 in
theorem ix_walk (its : List (Nat × E × V)) (g cap c : Nat) (px : Int) (w : World) (hlen : its.length ≤ 1024) (hcap : its.length ≤ cap)
    (hc : ∀ j x, its[j]? = some x → w.cell? ⟨g, j, none⟩ = some (.pointer (some ⟨x.1, 0, none⟩))) (hi : ∀ x ∈ its, ItemAt w x.1 x.2.1 x.2.2) (hb : w.cell? ⟨c, 0, none⟩ = some (.int .u16 px)) :
    Calls Tryz.prog 199 #[.slice (some ⟨g, 0, none⟩) its.length cap, .func (.func 158) #[] #[.pointer (some ⟨c, 0, none⟩)]] w fun e w' =>
      (∃ r : Int, e = .returned (.int .i64 r) ∧ ((0 ≤ r ∧ hasIx its px = true) ∨ (r = -1 ∧ hasIx its px = false))) ∧ Fr w w' := by
  have HC := Lib.hid hc
  have HI := Lib.hid hi
  have HB := Lib.hid hb
  clear hc hi hb
  go_enter Tryz.func199, Tryz.ntmps199
  go_wp2
  go_loopw [8] (fun i wr => ∃ k : Nat, k ≤ its.length ∧ i = .int .i64 k ∧ Fr w wr ∧ Hid (∀ t x, t < k → its[t]? = some x → x.2.1.ix ≠ px)) (fun i _ => its.length - (intOf i).toNat)
  case atStart => exact ⟨0, Nat.zero_le _, rfl, Fr.refl _, Lib.hid fun t x h => absurd h (Nat.not_lt_zero _)⟩
  case round =>
    obtain ⟨k, hk, rfl, hF, H⟩ := hrel
    by_cases hlt : k < its.length
    · obtain ⟨x, hx⟩ : ∃ x, its[k]? = some x := ⟨its[k], List.getElem?_eq_getElem hlt⟩
      have hm := List.mem_of_getElem? hx
      have hcl := hF.cell (HC.out k x hx)
      have hcmp := findhas_any x.1 c x.2.1 x.2.2 px wr ((HI.out x hm).fr hF) (hF.cell HB.out)
      have HX := Lib.hid hx
      have HM := Lib.hid hm
      clear hx hm
      have hxe : Hid ((x.2.1.ix == px) = true ↔ x.2.1.ix = px) := Lib.hid (by simp)
      generalize hr : (x.2.1.ix == px) = r at *
      clear hr
      cases r
      · go_wp2_with (go_at_call 158; refine hcmp.mono ?_; rintro e w' ⟨rfl, hF1⟩)
        go_roundw
        case rel =>
          exact ⟨k + 1, by omega, by go_num, hF.trans hF1, Lib.hid fun t y ht hy => (by
            by_cases htk : t = k
            · subst htk
              have : y = x := Option.some.inj (hy.symm.trans HX.out)
              subst this
              intro hh
              exact Bool.noConfusion (hxe.out.2 hh)
            · exact H.out t y (by omega) hy)⟩
        case measure =>
          show its.length - ((k : Int) + 1).toNat < its.length - ((k : Int)).toNat
          omega
      · go_wp2_with (go_at_call 158; refine hcmp.mono ?_; rintro e w' ⟨rfl, hF1⟩)
        go_ret
        exact ⟨⟨k, rfl, .inl ⟨by omega, List.any_eq_true.2 ⟨x, HM.out, by simpa using hxe.out.1 (by trivial)⟩⟩⟩, hF.trans hF1⟩
    · have hkl : k = its.length := by omega
      subst hkl
      have hnl : ¬ ((its.length : Nat) : Int) < (its.length : Nat) := by omega
      go_wp2
      go_ret
      refine ⟨⟨-1, rfl, .inr ⟨rfl, ?_⟩⟩, hF⟩
      unfold hasIx
      rw [List.any_eq_false]
      intro x hx hh
      obtain ⟨t, ht, rfl⟩ := List.getElem_of_mem hx
      exact H.out t _ ht (List.getElem?_eq_getElem ht) (by simpa using hh)

theorem has_any {w : World} {db lo hi : Nat} {vl : Value} {its : List (Nat × E × V)} (h : PD w db lo hi vl its) (hlen : its.length ≤ 1024) (c : Nat) (px : Int) (hb : w.cell? ⟨c, 0, none⟩ = some (.int .u16 px)) :
    Calls Tryz.prog 157 #[vl, .func (.func 158) #[] #[.pointer (some ⟨c, 0, none⟩)]] w fun e w' => e = .returned (.bool (hasIx its px)) ∧ Fr w w' := by
  have HX : Calls Tryz.prog 199 #[vl, .func (.func 158) #[] #[.pointer (some ⟨c, 0, none⟩)]] w fun e w' =>
      (∃ r : Int, e = .returned (.int .i64 r) ∧ ((0 ≤ r ∧ hasIx its px = true) ∨ (r = -1 ∧ hasIx its px = false))) ∧ Fr w w' := by
    by_cases hne : its = []
    · subst hne
      obtain ⟨A, cap, rfl⟩ := h.slice0
      exact (ix_nil A cap _ w).mono fun e w' h => ⟨⟨-1, h.1, .inr ⟨rfl, rfl⟩⟩, h.2⟩
    · obtain ⟨g, cap, rfl, hg, hcap, hcl⟩ := h.slice hne
      exact ix_walk its g cap c px w hlen hcap hcl h.items hb
  clear h hb
  generalize hasIx its px = b at *
  go_enter Tryz.func157, Tryz.ntmps157
  go_wp2_with (go_at_call 199; refine HX.mono ?_; rintro e w1 ⟨⟨r, rfl, hr⟩, hF1⟩)
  go_ret
  exact ⟨ret_bool (by rcases hr with ⟨h1, h2⟩ | ⟨h1, h2⟩ <;> simp [h2]; omega; omega), by (repeat (with_reducible first | exact Fr.refl _ | assumption | refine Fr.alloc ?_ _ | refine Fr.drew ?_ | refine Fr.drewN ?_ _ | refine Fr.set ?_ (by first | (simp; done) | (simp; omega)) _ | refine Fr.trans ?_ (by assumption)))⟩

def cNoSub : Int := 101253137
def cNoObject : Int := 100794368

theorem find_hit {w : World} {db lo hi : Nat} {vl : Value} {its : List (Nat × E × V)} (h : PD w db lo hi vl its) (hlen : its.length ≤ 1024) (px py : Int) (i : Nat) (x : Nat × E × V) (hx : its[i]? = some x) 
    (HB : ∀ w', Fr w w' → Calls Tryz.prog 155 #[vl, .agg #[.int .u16 px, .int .u8 py], .func (.func 156) #[] #[]] w' fun e w'' => e = .returned (.tuple #[.int .i64 i, .bool true]) ∧ Gr w' w'') :
    Calls Tryz.prog 101 #[.pointer (some ⟨db, 0, none⟩), .int .u16 px, .int .u8 py] w fun e w' => e = .returned (.tuple #[.pointer (some ⟨x.1, 0, none⟩), .int .u32 0]) ∧ Fr w w' := by
  have mx := mixed
  obtain ⟨g, cap, hvl, hg, hcap, hcl⟩ := h.slice (by intro hn; rw [hn] at hx; cases hx)
  have hcx := hcl i x hx
  have hi := (List.getElem?_eq_some_iff.1 hx).1
  subst hvl
  clear hcl hx
  have hd := h.cell
  have hdl := World.block_lt_of_cell? w _ hd
  obtain ⟨W, hW⟩ : ∃ W, W = (w.alloc (.cells #[.int .u16 px] 41)).alloc (.cells #[.int .u16 px, .int .u8 py] 216) := ⟨_, rfl⟩
  have hFW : Fr w W := by rw [hW]; exact ((Fr.refl w).alloc _).alloc _
  have hzW : w.heap.size + 1 < W.heap.size := by rw [hW]; simp
  have gd : ∀ n os, (grow (W.drewN n) os).cell? ⟨db, 0, none⟩ = some _ := fun n os => (hFW.trans (Gr.fr ⟨n, os, rfl⟩)).cell hd
  have gp0 : ∀ n os, (grow (W.drewN n) os).cell? ⟨w.heap.size + 1, 0, none⟩ = some (.int .u16 px) := cell_grown (by simpa using hzW) (by rw [hW]; simp [World.cell?_alloc_at])
  have gp1 : ∀ n os, (grow (W.drewN n) os).cell? ⟨w.heap.size + 1, 1, none⟩ = some (.int .u8 py) := cell_grown (by simpa using hzW) (by rw [hW]; simp [World.cell?_alloc_at])
  have gc : ∀ n os, (grow (W.drewN n) os).cell? ⟨w.heap.size, 0, none⟩ = some (.int .u16 px) := cell_grown (by simp; omega) (by rw [hW]; simp [World.cell?_alloc_at])
  have HB' := fun n os => HB (grow (W.drewN n) os) (hFW.trans (Gr.fr ⟨n, os, rfl⟩))
  clear HB
  have gx : ∀ n os, (grow (W.drewN n) os).cell? ⟨g, i, none⟩ = some (.pointer (some ⟨x.1, 0, none⟩)) := fun n os => (hFW.trans (Gr.fr ⟨n, os, rfl⟩)).cell hcx
  have hi2 : (i : Int) < (its.length : Int) := by omega
  go_enter Tryz.func101, Tryz.ntmps101
  go_wp2_with fail
  rw [← hW]
  clear hW
  refine wp_region_quiet_grown (by assumption) (by kernel_rfl) ?_
  iterate 5 (quiet_step (fail))
  quiet_step (refine Calls.grown_of (HB' _ _))
  iterate 5 (quiet_step (fail))
  refine wpQuiet_nil ?_
  intro _ hw'
  obtain ⟨⟨nq, osq⟩, hw''⟩ := hw'
  subst hw''
  have hFG : Fr w (grow (W.drewN nq) osq) := hFW.trans (Gr.fr ⟨nq, osq, rfl⟩)
  go_wp2_with fail
  go_ret2
  exact ⟨rfl, hFG⟩

theorem find_sub {w : World} {db lo hi : Nat} {vl : Value} {its : List (Nat × E × V)} (h : PD w db lo hi vl its) (hlen : its.length ≤ 1024) (px py : Int) (i : Int) (hh : hasIx its px = true)
    (HB : ∀ w', Fr w w' → Calls Tryz.prog 155 #[vl, .agg #[.int .u16 px, .int .u8 py], .func (.func 156) #[] #[]] w' fun e w'' => e = .returned (.tuple #[.int .i64 i, .bool false]) ∧ Gr w' w'') :
    Calls Tryz.prog 101 #[.pointer (some ⟨db, 0, none⟩), .int .u16 px, .int .u8 py] w fun e w' => e = .returned (.tuple #[.pointer none, .int .u32 cNoSub]) ∧ Fr w w' := by
  have mx := mixed
  have HH := fun c w' hf hb => has_any (h.fr (w' := w') hf) hlen c px hb
  rw [hh] at HH
  clear hh
  have hd := h.cell
  have hdl := World.block_lt_of_cell? w _ hd
  obtain ⟨W, hW⟩ : ∃ W, W = (w.alloc (.cells #[.int .u16 px] 41)).alloc (.cells #[.int .u16 px, .int .u8 py] 216) := ⟨_, rfl⟩
  have hFW : Fr w W := by rw [hW]; exact ((Fr.refl w).alloc _).alloc _
  have hzW : w.heap.size + 1 < W.heap.size := by rw [hW]; simp
  have gd : ∀ n os, (grow (W.drewN n) os).cell? ⟨db, 0, none⟩ = some _ := fun n os => (hFW.trans (Gr.fr ⟨n, os, rfl⟩)).cell hd
  have gp0 : ∀ n os, (grow (W.drewN n) os).cell? ⟨w.heap.size + 1, 0, none⟩ = some (.int .u16 px) := cell_grown (by simpa using hzW) (by rw [hW]; simp [World.cell?_alloc_at])
  have gp1 : ∀ n os, (grow (W.drewN n) os).cell? ⟨w.heap.size + 1, 1, none⟩ = some (.int .u8 py) := cell_grown (by simpa using hzW) (by rw [hW]; simp [World.cell?_alloc_at])
  have gc : ∀ n os, (grow (W.drewN n) os).cell? ⟨w.heap.size, 0, none⟩ = some (.int .u16 px) := cell_grown (by simp; omega) (by rw [hW]; simp [World.cell?_alloc_at])
  have HB' := fun n os => HB (grow (W.drewN n) os) (hFW.trans (Gr.fr ⟨n, os, rfl⟩))
  clear HB
  go_enter Tryz.func101, Tryz.ntmps101
  go_wp2_with fail
  rw [← hW]
  clear hW
  refine wp_region_quiet_grown (by assumption) (by kernel_rfl) ?_
  iterate 5 (quiet_step (fail))
  quiet_step (refine Calls.grown_of (HB' _ _))
  iterate 5 (quiet_step (fail))
  refine wpQuiet_nil ?_
  intro _ hw'
  obtain ⟨⟨nq, osq⟩, hw''⟩ := hw'
  subst hw''
  have hFG : Fr w (grow (W.drewN nq) osq) := hFW.trans (Gr.fr ⟨nq, osq, rfl⟩)
  have HK := HH w.heap.size (grow (W.drewN nq) osq) hFG (gc nq osq)
  clear HH HB'
  go_wp2_with (go_at_call 157; refine HK.mono ?_; rintro e w1 ⟨rfl, hF1⟩)
  go_ret2
  exact ⟨rfl, hFG.trans hF1⟩

theorem find_obj {w : World} {db lo hi : Nat} {vl : Value} {its : List (Nat × E × V)} (h : PD w db lo hi vl its) (hlen : its.length ≤ 1024) (px py : Int) (i : Int) (hh : hasIx its px = false)
    (HB : ∀ w', Fr w w' → Calls Tryz.prog 155 #[vl, .agg #[.int .u16 px, .int .u8 py], .func (.func 156) #[] #[]] w' fun e w'' => e = .returned (.tuple #[.int .i64 i, .bool false]) ∧ Gr w' w'') :
    Calls Tryz.prog 101 #[.pointer (some ⟨db, 0, none⟩), .int .u16 px, .int .u8 py] w fun e w' => e = .returned (.tuple #[.pointer none, .int .u32 cNoObject]) ∧ Fr w w' := by
  have mx := mixed
  have HH := fun c w' hf hb => has_any (h.fr (w' := w') hf) hlen c px hb
  rw [hh] at HH
  clear hh
  have hd := h.cell
  have hdl := World.block_lt_of_cell? w _ hd
  obtain ⟨W, hW⟩ : ∃ W, W = (w.alloc (.cells #[.int .u16 px] 41)).alloc (.cells #[.int .u16 px, .int .u8 py] 216) := ⟨_, rfl⟩
  have hFW : Fr w W := by rw [hW]; exact ((Fr.refl w).alloc _).alloc _
  have hzW : w.heap.size + 1 < W.heap.size := by rw [hW]; simp
  have gd : ∀ n os, (grow (W.drewN n) os).cell? ⟨db, 0, none⟩ = some _ := fun n os => (hFW.trans (Gr.fr ⟨n, os, rfl⟩)).cell hd
  have gp0 : ∀ n os, (grow (W.drewN n) os).cell? ⟨w.heap.size + 1, 0, none⟩ = some (.int .u16 px) := cell_grown (by simpa using hzW) (by rw [hW]; simp [World.cell?_alloc_at])
  have gp1 : ∀ n os, (grow (W.drewN n) os).cell? ⟨w.heap.size + 1, 1, none⟩ = some (.int .u8 py) := cell_grown (by simpa using hzW) (by rw [hW]; simp [World.cell?_alloc_at])
  have gc : ∀ n os, (grow (W.drewN n) os).cell? ⟨w.heap.size, 0, none⟩ = some (.int .u16 px) := cell_grown (by simp; omega) (by rw [hW]; simp [World.cell?_alloc_at])
  have HB' := fun n os => HB (grow (W.drewN n) os) (hFW.trans (Gr.fr ⟨n, os, rfl⟩))
  clear HB
  go_enter Tryz.func101, Tryz.ntmps101
  go_wp2_with fail
  rw [← hW]
  clear hW
  refine wp_region_quiet_grown (by assumption) (by kernel_rfl) ?_
  iterate 5 (quiet_step (fail))
  quiet_step (refine Calls.grown_of (HB' _ _))
  iterate 5 (quiet_step (fail))
  refine wpQuiet_nil ?_
  intro _ hw'
  obtain ⟨⟨nq, osq⟩, hw''⟩ := hw'
  subst hw''
  have hFG : Fr w (grow (W.drewN nq) osq) := hFW.trans (Gr.fr ⟨nq, osq, rfl⟩)
  have HK := HH w.heap.size (grow (W.drewN nq) osq) hFG (gc nq osq)
  clear HH HB'
  go_wp2_with (go_at_call 157; refine HK.mono ?_; rintro e w1 ⟨rfl, hF1⟩)
  go_ret2
  exact ⟨rfl, hFG.trans hF1⟩


end Go.Proofs.YtmllpkpdfhniaaaGreat

namespace Go.Proofs.YtmllpkpdfhniaaaGreat
open Go.RowKit Go.Sort

/-- A dictionary's items, as they may lie. -/
structure PS (its : List (Nat × E × V)) : Prop where
  len : its.length ≤ 1024
  wf : ∀ x ∈ its, x.2.1.wf
  vwf : ∀ x ∈ its, x.2.2.wf
  srt : (its.map plS).Pairwise (· < ·)
def getI (its : List (Nat × E × V)) (p : Int) : Option (Nat × E × V) := its.find? fun x => plS x == p
def fcode (its : List (Nat × E × V)) (px : Int) : Int := if hasIx its px = true then cNoSub else cNoObject

theorem getI_some {its : List (Nat × E × V)} {p : Int} {x : Nat × E × V} (h : getI its p = some x) : x ∈ its ∧ plS x = p := by
  have h2 := List.find?_some h
  exact ⟨List.mem_of_find?_eq_some h, by simpa using h2⟩
theorem getI_none {its : List (Nat × E × V)} {p : Int} (h : getI its p = none) : ∀ x ∈ its, plS x ≠ p := fun x hx hp => by
  have := List.find?_eq_none.1 h x hx
  simp [hp] at this

theorem find_some {w : World} {db lo hi : Nat} {vl : Value} {its : List (Nat × E × V)} (h : PD w db lo hi vl its) (hS : PS its) (px py : Int) (hp : 0 ≤ py ∧ py ≤ 255) {x : Nat × E × V} (hg : getI its (px * 256 + py) = some x) :
    Calls Tryz.prog 101 #[.pointer (some ⟨db, 0, none⟩), .int .u16 px, .int .u8 py] w fun e w' => e = .returned (.tuple #[.pointer (some ⟨x.1, 0, none⟩), .int .u32 0]) ∧ Fr w w' := by
  obtain ⟨hm, hpl⟩ := getI_some hg
  obtain ⟨i, hi, rfl⟩ := List.getElem_of_mem hm
  have hx := List.getElem?_eq_getElem hi
  refine find_hit h hS.len px py i _ hx fun w' hf => (bs_any (h.fr hf) hS.len hS.wf hS.srt px py hp).mono ?_
  rintro e w2 ⟨⟨j, y, hy, hyp, rfl⟩ | ⟨hno, _⟩, hG⟩
  · refine ⟨?_, hG⟩
    have : j = i := by
      rcases Nat.lt_trichotomy j i with hji | hji | hji
      · have := pairwise_at hS.srt j i _ _ hji hy hx; omega
      · exact hji
      · have := pairwise_at hS.srt i j _ _ hji hx hy; omega
    rw [this]
  · exact absurd hpl (hno _ hm)

theorem find_none {w : World} {db lo hi : Nat} {vl : Value} {its : List (Nat × E × V)} (h : PD w db lo hi vl its) (hS : PS its) (px py : Int) (hp : 0 ≤ py ∧ py ≤ 255) (hg : getI its (px * 256 + py) = none) :
    Calls Tryz.prog 101 #[.pointer (some ⟨db, 0, none⟩), .int .u16 px, .int .u8 py] w fun e w' => e = .returned (.tuple #[.pointer none, .int .u32 (fcode its px)]) ∧ Fr w w' := by
  have hno := getI_none hg
  have hb := fun w' (hf : Fr w w') => (bs_any (h.fr hf) hS.len hS.wf hS.srt px py hp).mono (R' := fun e w'' => e = .returned (.tuple #[.int .i64 (cntB its (px * 256 + py) : Nat), .bool false]) ∧ Gr w' w'') (by
    rintro e w2 ⟨⟨j, y, hy, hyp, rfl⟩ | ⟨_, rfl⟩, hG⟩
    · exact absurd hyp (hno y (List.mem_of_getElem? hy))
    · exact ⟨rfl, hG⟩)
  unfold fcode
  by_cases hh : hasIx its px = true
  · rw [if_pos hh]
    exact find_sub h hS.len px py _ hh hb
  · rw [if_neg hh]
    exact find_obj h hS.len px py _ (by simpa using hh) hb

def cNoRead : Int := 100728833
/-- Bytes and a code are handed back. -/
def RetC (c : Int) (l : List UInt8) (w : World) (e : Ending) (w' : World) : Prop := ∃ v, e = .returned (.tuple #[v, .int .u32 c]) ∧ RdB w' v l ∧ Fr w w'
def encA (v : V) : List UInt8 := if chkV v = 0 then encV v else []
def readC (its : List (Nat × E × V)) (px py : Int) : Int := match getI its (px * 256 + py) with | none => fcode its px | some x => if x.2.1.acc = 1 then cNoRead else 0
def readB (its : List (Nat × E × V)) (px py : Int) : List UInt8 := match getI its (px * 256 + py) with | none => [] | some x => if x.2.1.acc = 1 then [] else encA x.2.2

theorem fcode_ne (its : List (Nat × E × V)) (px : Int) : (fcode its px != 0) = true := by
  unfold fcode
  split <;> rfl

theorem ItemAt.fact {w : World} {b : Nat} {e : E} {v : V} (h : ItemAt w b e v) (j : Nat) (u : Value) (hu : (itemCells e v)[j]? = some u) : w.cell? ⟨b, j, none⟩ = some u := (h.cell j).trans hu

/-- od's Read. -/
theorem read_any {w : World} {db lo hi : Nat} {vl : Value} {its : List (Nat × E × V)} (h : PD w db lo hi vl its) (hS : PS its) (px py : Int) (hp : 0 ≤ py ∧ py ≤ 255) :
    Calls Tryz.prog 70 #[.pointer (some ⟨db, 0, none⟩), .int .u16 px, .int .u8 py] w fun e w' => RetC (readC its px py) (readB its px py) w e w' := by
  unfold readC readB
  cases hg : getI its (px * 256 + py) with
  | none =>
    have HF := find_none h hS px py hp hg
    have hn := fcode_ne its px
    clear h hS hg
    dsimp only
    generalize fcode its px = c at *
    go_enter Tryz.func70, Tryz.ntmps70
    go_wp2_with (first | (go_at_call 101; refine (HF).mono ?_; rintro e w1 ⟨rfl, hF1⟩; have hz1 := hF1.size; (try simp at hz1); have hc1 := hF1.cells; have hf1 := hF1.froz))
    go_ret2
    exact ⟨_, rfl, RdB.nil _, by (repeat (with_reducible first | exact Fr.refl _ | assumption | refine Fr.alloc ?_ _ | refine Fr.drew ?_ | refine Fr.drewN ?_ _ | refine Fr.set ?_ (by first | (simp; done) | (simp; omega)) _ | refine Fr.trans ?_ (by assumption)))⟩
  | some x =>
    have HF := find_some h hS px py hp hg
    have hm := (getI_some hg).1
    have hI := h.items x hm
    have hv := hS.vwf x hm
    have HE := encode_any x.2.2 hv
    have k2 := hI.fact 2 (.int .i64 x.2.1.acc) rfl
    have k14 := hI.fact 14 (.int .i64 x.2.2.t) rfl
    have k15 := hI.fact 15 (.int .u64 x.2.2.n) rfl
    have k16 := hI.fact 16 (.string x.2.2.b) rfl
    have hlt := hI.lt
    clear h hS hg hm hI hv
    unfold encA
    obtain ⟨b, e, ⟨t, n, bb⟩⟩ := x
    dsimp only at *
    unfold V.agg at HE
    dsimp only at HE
    generalize (if chkV ⟨t, n, bb⟩ = 0 then encV ⟨t, n, bb⟩ else []) = l at *
    generalize chkV ⟨t, n, bb⟩ = ck at *
    generalize e.acc = acc at *
    by_cases ha : acc = 1
    · rw [if_pos ha, if_pos ha]
      have ha' := beq_true ha
      clear ha
      go_enter Tryz.func70, Tryz.ntmps70
      go_wp2_with (first | (go_at_call 101; refine (HF).mono ?_; rintro e w1 ⟨rfl, hF1⟩; have hz1 := hF1.size; (try simp at hz1); (try (have hz1_0 : b < w1.heap.size := (by omega))); have hc1 := hF1.cells; have hf1 := hF1.froz))
      go_ret2
      exact ⟨_, rfl, RdB.nil _, by (repeat (with_reducible first | exact Fr.refl _ | assumption | refine Fr.alloc ?_ _ | refine Fr.drew ?_ | refine Fr.drewN ?_ _ | refine Fr.set ?_ (by first | (simp; done) | (simp; omega)) _ | refine Fr.trans ?_ (by assumption)))⟩
    · rw [if_neg ha, if_neg ha]
      have ha' := beq_false ha
      clear ha
      go_enter Tryz.func70, Tryz.ntmps70
      go_wp2_with (first | (go_at_call 101; refine (HF).mono ?_; rintro e w1 ⟨rfl, hF1⟩; have hz1 := hF1.size; (try simp at hz1); (try (have hz1_0 : b < w1.heap.size := (by omega))); have hc1 := hF1.cells; have hf1 := hF1.froz) | (go_at_call 99; refine (HE _).mono ?_; rintro e w2 ⟨v, rfl, hR, hF2⟩))
      go_ret2
      exact ⟨_, rfl, hR, by (repeat (with_reducible first | exact Fr.refl _ | assumption | refine Fr.alloc ?_ _ | refine Fr.drew ?_ | refine Fr.drewN ?_ _ | refine Fr.set ?_ (by first | (simp; done) | (simp; omega)) _ | refine Fr.trans ?_ (by assumption)))⟩

end Go.Proofs.YtmllpkpdfhniaaaGreat
