import Derived.Test.YteblahoijolegaaGreatDoorM26
import Derived.Test.YteblahoijolegaaGreatDoorM28
import Derived.Test.YteblahoijolegaaGreatDoorM29
import Derived.Test.YteblahoijolegaaGreatDoorM30
import Derived.Test.YteblahoijolegaaGreatDoorM32
section
set_option linter.all false
namespace Go.Proofs.YteblahoijolegaaGreatDoor
open Go.RowKit

theorem cell_set_off {w : World} {b o o' : Nat} {v : Value} (h : o ≠ o') : (w.setCell ⟨b, o', none⟩ v).cell? ⟨b, o, none⟩ = w.cell? ⟨b, o, none⟩ := World.cell?_setCell_other _ _ _ _ (fun e => h (by cases e; rfl))
/-- a snapshot's 19 cells -/
def snC (q : PolPtr) (P : Pol) (lt tx m0 m1 m2 m3 : Value) : Array Value := #[.slice q.a0 P.nl q.c0, .slice q.a1 P.nb q.c1, .slice q.a2 P.ns q.c2, .slice q.a3 P.nd q.c3, .slice q.a4 P.nw q.c4, .slice q.a5 P.nr q.c5, .slice q.a6 P.nc q.c6, .slice q.a7 P.ng q.c7, .slice q.a8 P.na q.c8, lt, tx, m0, m1, m2, m3, .int .u32 0, .int .i32 0, .int .u32 0, .slice none 0 0]
theorem snBox {w : World} {b : Nat} {q : PolPtr} {P : Pol} {lt tx m0 m1 m2 m3 : Value} {t : TypeId} {fz : Nat × Nat} (h : w.heap[b]? = some (.cells (snC q P lt tx m0 m1 m2 m3) t fz)) : PolBox w b 0 q P := by
  refine cells_of_heap h _ ?_
  simp [snC]
set_option maxHeartbeats 8000000 in
set_option maxRecDepth 20000 in
theorem snap_Of {w : World} {q : PolPtr} {P : Pol} (h : PolAt w q P) (hz : P.Sized) (hg : GlAt w) :
    Calls Tryz.prog 9 #[.agg (polCells q P)] w (OfPost P w) := by
  obtain ⟨w0, hw0⟩ : ∃ w0 : World, w0 = w.alloc (.cells (polCells q P) 30) := ⟨_, rfl⟩
  have hb0 : Below w.heap.size w w0 := by rw [hw0]; (repeat first | exact Below.refl _ _ | assumption | refine Below.alloc ?_ (by simp; try omega) _ | refine Below.drew ?_ | refine Below.drewN ?_ _ | refine Below.setCell ?_ (by simp; try omega) _ | refine Below.trans ?_ (Below.mono (by assumption) (by simp; try omega)))
  have g1 : w0.heap[w.heap.size]? = some (.cells (polCells q P) 30) := by rw [hw0]; exact heap_new w _
  have hlt : w.heap.size < w0.heap.size := (Array.getElem?_eq_some_iff.1 g1).1
  have hpr := policy_Print (h.below hb0) hz (hg.below hb0)
  have HPr := Lib.hid hpr; clear hpr
  have HW := Lib.hid hw0; clear hw0
  have HH := Lib.hid h; clear h
  have G1 := Lib.hid g1; clear g1
  have HB0 := Lib.hid hb0; clear hb0
  have HZ := Lib.hid hz; clear hz
  have HDB := Lib.hid hg.db; clear hg
  simp only [polCells] at HW ⊢
  by_cases hc : P.code = 0
  · have hgd := Pol.good hc
    obtain ⟨dn, hup, htab, -, hn1, hn2⟩ := hgd.tab
    have hsm := P.small hgd.lim
    have hmk : mkCode P.lab P.nl P.bel P.nb = 0 := hgd.mk0
    have HC := Lib.hid hc; clear hc
    have HSm := Lib.hid hsm; clear hsm
    have HGd := Lib.hid hgd; clear hgd
    have HMk0 := Lib.hid hmk; clear hmk
    have HUp := Lib.hid hup; clear hup
    have HTab := Lib.hid htab; clear htab
    go_enter Tryz.func9, Tryz.ntmps9
    go_wp2_with fail
    rw [← HW.out]
    refine HPr.out.mono ?_
    rintro e w1 ⟨hcase, hb1⟩
    obtain ⟨-, txt, rfl⟩ := hcase.resolve_left (fun h => h.1 HC.out)
    have hbw1 := HB0.out.trans (hb1.mono HB0.out.size)
    have HB1 := Lib.hid hbw1; clear hbw1
    have hg1 := (hb1.block _ hlt).trans G1.out
    have c0 := cell_of (o := 0) hg1; have c1 := cell_of (o := 1) hg1; have c2 := cell_of (o := 2) hg1; have c3 := cell_of (o := 3) hg1; have c4 := cell_of (o := 4) hg1; have c5 := cell_of (o := 5) hg1; have c6 := cell_of (o := 6) hg1; have c7 := cell_of (o := 7) hg1; have c8 := cell_of (o := 8) hg1
    have hcp := policy_Copy2 (HH.out.below HB1.out) HSm.out
    simp only [polCells] at hcp c0 c1 c2 c3 c4 c5 c6 c7 c8
    have HCp := Lib.hid hcp; clear hcp
    clear hb1 hcase hg1
    go_wp2_with fail
    refine HCp.out.mono ?_
    rintro e w2 ⟨⟨q2, rfl, hq2, hfq⟩, hb2⟩
    have HFQ := Lib.hid (hfq.mono HB1.out.size); clear hfq
    have hbw2 := HB1.out.trans (hb2.mono HB1.out.size)
    have HB2 := Lib.hid hbw2; clear hbw2 hb2
    obtain ⟨b0, b1, b2, b3, b4, b5, b6, b7, b8, d0, d1, d2, d3, d4, d5, d6, d7, d8⟩ := q2
    have HQ2 := Lib.hid hq2; clear hq2
    clear c0 c1 c2 c3 c4 c5 c6 c7 c8
    go_wp2_with fail
    obtain ⟨w3, hw3⟩ : ∃ w3 : World, w3 = (w2.alloc (.cells (snC ⟨b0, b1, b2, b3, b4, b5, b6, b7, b8, d0, d1, d2, d3, d4, d5, d6, d7, d8⟩ P (.pointer none) (.string txt) (.map none) (.map none) (.map none) (.map none)) 85)).alloc (.cells #[.pointer (some ⟨w2.heap.size, 0, none⟩)] 32) := ⟨_, rfl⟩
    have s3 : w3.heap[w2.heap.size]? = some (.cells (snC ⟨b0, b1, b2, b3, b4, b5, b6, b7, b8, d0, d1, d2, d3, d4, d5, d6, d7, d8⟩ P (.pointer none) (.string txt) (.map none) (.map none) (.map none) (.map none)) 85) := by rw [hw3]; (simp only [heap_drew, heap_allocs, World.size_alloc, if_true] <;> repeat (first | rw [if_pos (by omega)] | rw [if_neg (by omega)]))
    have v3 : w3.heap[w2.heap.size + 1]? = some (.cells #[.pointer (some ⟨w2.heap.size, 0, none⟩)] 32) := by rw [hw3]; (simp only [heap_drew, heap_allocs, World.size_alloc, if_true] <;> repeat (first | rw [if_pos (by omega)] | rw [if_neg (by omega)]))
    have hb3 : Below w2.heap.size w2 w3 := by rw [hw3]; (repeat first | exact Below.refl _ _ | assumption | refine Below.alloc ?_ (by simp; try omega) _ | refine Below.drew ?_ | refine Below.drewN ?_ _ | refine Below.setCell ?_ (by simp; try omega) _ | refine Below.trans ?_ (Below.mono (by assumption) (by simp; try omega)))
    have HS3 := Lib.hid s3; have HV3 := Lib.hid v3; have HB3 := Lib.hid hb3
    have HW3 := Lib.hid hw3
    have HMk := Lib.hid (show ∀ W, Below w2.heap.size w2 W → Calls Tryz.prog 24 #[.slice b0 P.nl d0, .slice b1 P.nb d1] W (MkPost P.lab P.nl P.bel P.nb W) from fun W hW =>
      lat_Make (Nat.le_trans HSm.out.nl (by omega)) (Nat.le_trans HSm.out.nb (by omega)) HQ2.out.h0.cap HQ2.out.h0.nil HQ2.out.h0.spot (HQ2.out.h0.sl.below hW) (HQ2.out.h1.sl.below hW) (HDB.out.kept (kall (HB2.out.trans (hW.mono HB2.out.size))) trivial))
    have HSr := Lib.hid (show ∀ W, Below w2.heap.size w2 W → _ from fun W (hW : Below w2.heap.size w2 W) => by_source (cp := d2) (HQ2.out.h2.sl.below hW) (Nat.le_trans HSm.out.ns (by omega)) (siiC_one _) (fun k => (P.src k).1) (fun k hk => rfl) (fun k hk => HZ.out.src k hk))
    have HDs := Lib.hid (show ∀ W, Below w2.heap.size w2 W → _ from fun W (hW : Below w2.heap.size w2 W) => by_dest (cp := d3) (HQ2.out.h3.sl.below hW) (Nat.le_trans HSm.out.nd (by omega)) (siC_one _) (fun k => (P.dst k).1) (fun k hk => rfl) (fun k hk => HZ.out.dst k hk))
    have a0 := cell_of (o := 0) v3
    have a1 := cell_of (o := 0) s3
    have a2 := cell_of (o := 1) s3
    have a3 := cellD_of (cell_of (o := 9) s3 : w3.cell? ⟨w2.heap.size, 9, none⟩ = some (.pointer none))
    have a4 : w3.frozen? ⟨w2.heap.size, 9, none⟩ = false := free_of s3
    clear hw3 s3 v3 hb3
    simp only [snC] at HW3
    go_upto_region 5 with fail
    rw [← HW3.out]
    go_region_held3 (fun w' => w'.cell? ⟨w2.heap.size + 1, 0, none⟩ = some (.pointer (some ⟨w2.heap.size, 0, none⟩)) ∧ w'.cell? ⟨w2.heap.size, 0, none⟩ = some (.slice b0 P.nl d0) ∧ w'.cell? ⟨w2.heap.size, 1, none⟩ = some (.slice b1 P.nb d1) ∧ w'.cell? ⟨w2.heap.size, 9, none⟩ = some (cellD w' ⟨w2.heap.size, 9, none⟩) ∧ w'.frozen? ⟨w2.heap.size, 9, none⟩ = false)
      (first | exact ⟨a0, a1, a2, a3, a4⟩ | (go_split_ands; exact ⟨(hbA.cell (cell_lt (by assumption))).trans (by assumption), (hbA.cell (cell_lt (by assumption))).trans (by assumption), (hbA.cell (cell_lt (by assumption))).trans (by assumption), cellD_below hbA (by assumption), frz1_below hbA (by assumption) (by assumption)⟩) | (go_split_ands; exact ⟨(cell_set_ne (by omega)).trans (by assumption), (cell_set_off (by omega)).trans (by assumption), (cell_set_off (by omega)).trans (by assumption), cellD_set (by assumption), by rw [World.frozen?_setCell]; assumption⟩))
      (first
        | (go_at_call 24; refine (HMk.out _ HB3.out.drew).mono ?_; rintro e wA ⟨hbA, hcase⟩; obtain ⟨-, bl, b, bu, bd, up, down, rfl, hlat, hok, hll, hadd⟩ := hcase.resolve_left (fun h => h.1 HMk0.out); clear hcase))
    all_goals
      obtain ⟨w4, hw4⟩ : ∃ w4 : World, w4 = wA.setCell ⟨w2.heap.size, 9, none⟩ (.pointer (some ⟨bl, 0, none⟩)) := ⟨_, rfl⟩
      have hbA2 : Below w2.heap.size w2 wA := HB3.out.drew.trans (hbA.mono HB3.out.drew.size)
      have sA := (hbA.block _ (Array.getElem?_eq_some_iff.1 HS3.out).1).trans HS3.out
      have vA := (hbA.block _ (Array.getElem?_eq_some_iff.1 HV3.out).1).trans HV3.out
      have s4 : w4.heap[w2.heap.size]? = some (.cells (snC ⟨b0, b1, b2, b3, b4, b5, b6, b7, b8, d0, d1, d2, d3, d4, d5, d6, d7, d8⟩ P (.pointer (some ⟨bl, 0, none⟩)) (.string txt) (.map none) (.map none) (.map none) (.map none)) 85) := by rw [hw4]; exact heap_set (o := 9) _ sA
      have v4 : w4.heap[w2.heap.size + 1]? = some (.cells #[.pointer (some ⟨w2.heap.size, 0, none⟩)] 32) := by rw [hw4]; exact (heap_setne _ (by omega)).trans vA
      have hk4 : Kept (fun k => k ≠ w2.heap.size) wA w4 := by rw [hw4]; exact (Kept.refl _ wA).setCell (by simp) _
      have hb4 : Below w2.heap.size w2 w4 := by rw [hw4]; exact hbA2.setCell (Nat.le_refl _) _
      have hlat4 := latAt_snap hlat sA hk4
      have hup : P.up = up := by
        have : P.upO = some (up, down) := hadd
        rw [Pol.up, this]
      have HLat := Lib.hid hlat4; have HOk := Lib.hid hok; have HUp2 := Lib.hid hup; have HAdd := Lib.hid (show P.upO = some (up, down) from hadd)
      have HS4 := Lib.hid s4; have HV4 := Lib.hid v4; have HB4 := Lib.hid hb4; have HW4 := Lib.hid hw4
      have i0 := cell_of (o := 0) v4
      have i1 := cell_of (o := 2) s4
      have i3 := cellD_of (cell_of (o := 11) s4 : w4.cell? ⟨w2.heap.size, 11, none⟩ = some (.map none))
      have i4 : w4.frozen? ⟨w2.heap.size, 11, none⟩ = false := free_of s4
      clear hw4 hbA hbA2 sA vA s4 v4 hk4 hb4 hlat4 hlat hok hadd hup hll a0 a1 a2 a3 a4
      go_upto_region 8 with fail
      rw [← HW4.out]
      go_region_held3 (fun w' => w'.cell? ⟨w2.heap.size + 1, 0, none⟩ = some (.pointer (some ⟨w2.heap.size, 0, none⟩)) ∧ w'.cell? ⟨w2.heap.size, 2, none⟩ = some (.slice b2 P.ns d2) ∧ w'.cell? ⟨w2.heap.size, 11, none⟩ = some (cellD w' ⟨w2.heap.size, 11, none⟩) ∧ w'.frozen? ⟨w2.heap.size, 11, none⟩ = false)
        (first | exact ⟨i0, i1, i3, i4⟩ | (go_split_ands; exact ⟨(hbB.cell (cell_lt (by assumption))).trans (by assumption), (hbB.cell (cell_lt (by assumption))).trans (by assumption), cellD_below hbB (by assumption), frz1_below hbB (by assumption) (by assumption)⟩) | (go_split_ands; exact ⟨(cell_set_ne (by omega)).trans (by assumption), (cell_set_off (by omega)).trans (by assumption), cellD_set (by assumption), by rw [World.frozen?_setCell]; assumption⟩))
        (first
          | (go_at_call 25; refine (HSr.out _ HB4.out.drew).mono ?_; rintro e wB ⟨⟨mB, rfl⟩, hbB⟩))
      all_goals
        obtain ⟨w5, hw5⟩ : ∃ w5 : World, w5 = wB.setCell ⟨w2.heap.size, 11, none⟩ (.map (some mB)) := ⟨_, rfl⟩
        have hbX2 : Below w2.heap.size w2 wB := HB4.out.drew.trans (hbB.mono HB4.out.drew.size)
        have sA := (hbB.block _ (Array.getElem?_eq_some_iff.1 HS4.out).1).trans HS4.out
        have vA := (hbB.block _ (Array.getElem?_eq_some_iff.1 HV4.out).1).trans HV4.out
        have lA : LatAt wB bl b bu bd P.nl up down (lastOf (fullS down P.nl) 0 P.nl) := HLat.out.below (show Below w4.heap.size w4 _ from (Below.refl _ w4).drew.trans hbB)
        have s5 : w5.heap[w2.heap.size]? = some (.cells (snC ⟨b0, b1, b2, b3, b4, b5, b6, b7, b8, d0, d1, d2, d3, d4, d5, d6, d7, d8⟩ P (.pointer (some ⟨bl, 0, none⟩)) (.string txt) (.map (some mB)) (.map none) (.map none) (.map none)) 85) := by rw [hw5]; exact heap_set (o := 11) _ sA
        have v5 : w5.heap[w2.heap.size + 1]? = some (.cells #[.pointer (some ⟨w2.heap.size, 0, none⟩)] 32) := by rw [hw5]; exact (heap_setne _ (by omega)).trans vA
        have hk5 : Kept (fun k => k ≠ w2.heap.size) wB w5 := by rw [hw5]; exact (Kept.refl _ wB).setCell (by simp) _
        have hb5 : Below w2.heap.size w2 w5 := by rw [hw5]; exact hbX2.setCell (Nat.le_refl _) _
        have hlat5 := latAt_snap lA sA hk5
        have HLat := Lib.hid hlat5
        have HS5 := Lib.hid s5; have HV5 := Lib.hid v5; have HB5 := Lib.hid hb5; have HW5 := Lib.hid hw5
        have j0 := cell_of (o := 0) v5
        have j1 := cell_of (o := 3) s5
        have j3 := cellD_of (cell_of (o := 12) s5 : w5.cell? ⟨w2.heap.size, 12, none⟩ = some (.map none))
        have j4 : w5.frozen? ⟨w2.heap.size, 12, none⟩ = false := free_of s5
        clear hw5 hbB hbX2 sA vA lA s5 v5 hk5 hb5 hlat5 i0 i1 i3 i4
        go_upto_region 9 with fail
        rw [← HW5.out]
        go_region_held3 (fun w' => w'.cell? ⟨w2.heap.size + 1, 0, none⟩ = some (.pointer (some ⟨w2.heap.size, 0, none⟩)) ∧ w'.cell? ⟨w2.heap.size, 3, none⟩ = some (.slice b3 P.nd d3) ∧ w'.cell? ⟨w2.heap.size, 12, none⟩ = some (cellD w' ⟨w2.heap.size, 12, none⟩) ∧ w'.frozen? ⟨w2.heap.size, 12, none⟩ = false)
          (first | exact ⟨j0, j1, j3, j4⟩ | (go_split_ands; exact ⟨(hbC.cell (cell_lt (by assumption))).trans (by assumption), (hbC.cell (cell_lt (by assumption))).trans (by assumption), cellD_below hbC (by assumption), frz1_below hbC (by assumption) (by assumption)⟩) | (go_split_ands; exact ⟨(cell_set_ne (by omega)).trans (by assumption), (cell_set_off (by omega)).trans (by assumption), cellD_set (by assumption), by rw [World.frozen?_setCell]; assumption⟩))
          (first
            | (go_at_call 27; refine (HDs.out _ HB5.out.drew).mono ?_; rintro e wC ⟨⟨mC, rfl⟩, hbC⟩))
        all_goals
          obtain ⟨w6, hw6⟩ : ∃ w6 : World, w6 = wC.setCell ⟨w2.heap.size, 12, none⟩ (.map (some mC)) := ⟨_, rfl⟩
          have hbX2 : Below w2.heap.size w2 wC := HB5.out.drew.trans (hbC.mono HB5.out.drew.size)
          have sA := (hbC.block _ (Array.getElem?_eq_some_iff.1 HS5.out).1).trans HS5.out
          have vA := (hbC.block _ (Array.getElem?_eq_some_iff.1 HV5.out).1).trans HV5.out
          have lA : LatAt wC bl b bu bd P.nl up down (lastOf (fullS down P.nl) 0 P.nl) := HLat.out.below (show Below w5.heap.size w5 _ from (Below.refl _ w5).drew.trans hbC)
          have s6 : w6.heap[w2.heap.size]? = some (.cells (snC ⟨b0, b1, b2, b3, b4, b5, b6, b7, b8, d0, d1, d2, d3, d4, d5, d6, d7, d8⟩ P (.pointer (some ⟨bl, 0, none⟩)) (.string txt) (.map (some mB)) (.map (some mC)) (.map none) (.map none)) 85) := by rw [hw6]; exact heap_set (o := 12) _ sA
          have v6 : w6.heap[w2.heap.size + 1]? = some (.cells #[.pointer (some ⟨w2.heap.size, 0, none⟩)] 32) := by rw [hw6]; exact (heap_setne _ (by omega)).trans vA
          have hk6 : Kept (fun k => k ≠ w2.heap.size) wC w6 := by rw [hw6]; exact (Kept.refl _ wC).setCell (by simp) _
          have hb6 : Below w2.heap.size w2 w6 := by rw [hw6]; exact hbX2.setCell (Nat.le_refl _) _
          have hlat6 := latAt_snap lA sA hk6
          have HLat := Lib.hid hlat6
          have HS6 := Lib.hid s6; have HV6 := Lib.hid v6; have HB6 := Lib.hid hb6; have HW6 := Lib.hid hw6
          have k0 := cell_of (o := 0) v6
          have k1 := cell_of (o := 4) s6
          have k3 := cellD_of (cell_of (o := 13) s6 : w6.cell? ⟨w2.heap.size, 13, none⟩ = some (.map none))
          have k4 : w6.frozen? ⟨w2.heap.size, 13, none⟩ = false := free_of s6
          clear hw6 hbC hbX2 sA vA lA s6 v6 hk6 hb6 hlat6 j0 j1 j3 j4
          go_upto_region 11 with fail
          rw [← HW6.out]
          have HByW := Lib.hid (show ∀ W nA nC, Below w6.heap.size w6 W → SlAt W nA P.nw 1 (fun k _ => .int .i64 k) → _ from fun W nA nC (hW : Below w6.heap.size w6 W) hnS =>
            by_works (cp := nC) (bv := w2.heap.size + 1) hnS (Nat.le_trans HSm.out.nw (by omega)) (fun k => (P.wrk k).1) (fun X hX k hk => of4 (((hW.trans (hX.mono hW.size)).cell (p := ⟨w2.heap.size + 1, 0, none⟩) (cell_lt k0)).trans k0) (((hW.trans (hX.mono hW.size)).cell (p := ⟨w2.heap.size, 4, none⟩) (cell_lt k1)).trans k1) (HQ2.out.h4.sl.below (HB6.out.trans ((hW.trans (hX.mono hW.size)).mono HB6.out.size))) (Nat.le_trans HSm.out.nw (by omega)) k hk) (fun k hk => HZ.out.wrk k hk))
          have tok0 : True := trivial
          have HNu := Lib.hid (fun W : World => snap_numbers P.nw (Nat.le_trans HSm.out.nw (by omega)) W)
          go_region_held3 (fun w' => w'.cell? ⟨w2.heap.size + 1, 0, none⟩ = some (.pointer (some ⟨w2.heap.size, 0, none⟩)) ∧ w'.cell? ⟨w2.heap.size, 4, none⟩ = some (.slice b4 P.nw d4) ∧ w'.cell? ⟨w2.heap.size, 13, none⟩ = some (cellD w' ⟨w2.heap.size, 13, none⟩) ∧ w'.frozen? ⟨w2.heap.size, 13, none⟩ = false)
            (first | exact ⟨k0, k1, k3, k4⟩ | (have _t := tok2; go_split_ands; exact ⟨(cell_set_ne (by omega)).trans (by assumption), (cell_set_off (by omega)).trans (by assumption), cellD_set (by assumption), by rw [World.frozen?_setCell]; assumption⟩) | (have _t := tok2; go_split_ands; exact ⟨(hbE.cell (cell_lt (by assumption))).trans (by assumption), (hbE.cell (cell_lt (by assumption))).trans (by assumption), cellD_below hbE (by assumption), frz1_below hbE (by assumption) (by assumption)⟩) | (have _t := tok1; go_split_ands; exact ⟨(hbD.cell (cell_lt (by assumption))).trans (by assumption), (hbD.cell (cell_lt (by assumption))).trans (by assumption), cellD_below hbD (by assumption), frz1_below hbD (by assumption) (by assumption)⟩))
            (first
              | (have _t := tok0; go_at_call 29; refine (HNu.out _).mono ?_; rintro e wD ⟨⟨nA, nC, rfl, hnS⟩, hbD⟩; clear tok0; have tok1 : True := trivial)
              | (have _t := tok1; go_at_call 30; refine (HByW.out _ _ _ ((Below.refl _ w6).drew.trans hbD) hnS).mono ?_; rintro e wE ⟨⟨mE, rfl⟩, hbE⟩; clear tok1; have tok2 : True := trivial))
          all_goals
            have hbX : Below w6.heap.size w6 wE := ((Below.refl _ w6).drew.trans hbD).trans (hbE.mono ((Below.refl _ w6).drew.trans hbD).size)
            obtain ⟨w7, hw7⟩ : ∃ w7 : World, w7 = wE.setCell ⟨w2.heap.size, 13, none⟩ (.map (some mE)) := ⟨_, rfl⟩
            have hbX2 : Below w2.heap.size w2 wE := HB6.out.trans (hbX.mono HB6.out.size)
            have sA := (hbX.block _ (Array.getElem?_eq_some_iff.1 HS6.out).1).trans HS6.out
            have vA := (hbX.block _ (Array.getElem?_eq_some_iff.1 HV6.out).1).trans HV6.out
            have lA : LatAt wE bl b bu bd P.nl up down (lastOf (fullS down P.nl) 0 P.nl) := HLat.out.below hbX
            have s7 : w7.heap[w2.heap.size]? = some (.cells (snC ⟨b0, b1, b2, b3, b4, b5, b6, b7, b8, d0, d1, d2, d3, d4, d5, d6, d7, d8⟩ P (.pointer (some ⟨bl, 0, none⟩)) (.string txt) (.map (some mB)) (.map (some mC)) (.map (some mE)) (.map none)) 85) := by rw [hw7]; exact heap_set (o := 13) _ sA
            have v7 : w7.heap[w2.heap.size + 1]? = some (.cells #[.pointer (some ⟨w2.heap.size, 0, none⟩)] 32) := by rw [hw7]; exact (heap_setne _ (by omega)).trans vA
            have hk7 : Kept (fun k => k ≠ w2.heap.size) wE w7 := by rw [hw7]; exact (Kept.refl _ wE).setCell (by simp) _
            have hb7 : Below w2.heap.size w2 w7 := by rw [hw7]; exact hbX2.setCell (Nat.le_refl _) _
            have hlat7 := latAt_snap lA sA hk7
            have HLat := Lib.hid hlat7
            have HS7 := Lib.hid s7; have HV7 := Lib.hid v7; have HB7 := Lib.hid hb7; have HW7 := Lib.hid hw7
            have n0 := cell_of (o := 0) v7
            have n1 := cell_of (o := 0) s7
            have n3 := cellD_of (cell_of (o := 14) s7 : w7.cell? ⟨w2.heap.size, 14, none⟩ = some (.map none))
            have n4 : w7.frozen? ⟨w2.heap.size, 14, none⟩ = false := free_of s7
            clear hw7 hbD hbE hbX hbX2 sA vA lA s7 v7 hk7 hb7 hlat7 k0 k1 k3 k4 hnS HNu HByW tok2
            go_upto_region 12 with fail
            rw [← HW7.out]
            have HByL := Lib.hid (show ∀ W nA nC, Below w7.heap.size w7 W → SlAt W nA P.nl 1 (fun k _ => .int .i64 k) → _ from fun W nA nC (hW : Below w7.heap.size w7 W) hnS =>
              by_labels (cp := nC) (bv := w2.heap.size + 1) hnS (Nat.le_trans HSm.out.nl (by omega)) P.lab (fun X hX k hk => of5 (((hW.trans (hX.mono hW.size)).cell (p := ⟨w2.heap.size + 1, 0, none⟩) (cell_lt n0)).trans n0) (((hW.trans (hX.mono hW.size)).cell (p := ⟨w2.heap.size, 0, none⟩) (cell_lt n1)).trans n1) (HQ2.out.h0.sl.below (HB7.out.trans ((hW.trans (hX.mono hW.size)).mono HB7.out.size))) (Nat.le_trans HSm.out.nl (by omega)) k hk) (fun k hk => HZ.out.lab k hk))
            have tok0 : True := trivial
            have HNu := Lib.hid (fun W : World => snap_numbers P.nl (Nat.le_trans HSm.out.nl (by omega)) W)
            go_region_held3 (fun w' => w'.cell? ⟨w2.heap.size + 1, 0, none⟩ = some (.pointer (some ⟨w2.heap.size, 0, none⟩)) ∧ w'.cell? ⟨w2.heap.size, 0, none⟩ = some (.slice b0 P.nl d0) ∧ w'.cell? ⟨w2.heap.size, 14, none⟩ = some (cellD w' ⟨w2.heap.size, 14, none⟩) ∧ w'.frozen? ⟨w2.heap.size, 14, none⟩ = false)
              (first | exact ⟨n0, n1, n3, n4⟩ | (have _t := tok2; go_split_ands; exact ⟨(cell_set_ne (by omega)).trans (by assumption), (cell_set_off (by omega)).trans (by assumption), cellD_set (by assumption), by rw [World.frozen?_setCell]; assumption⟩) | (have _t := tok2; go_split_ands; exact ⟨(hbE.cell (cell_lt (by assumption))).trans (by assumption), (hbE.cell (cell_lt (by assumption))).trans (by assumption), cellD_below hbE (by assumption), frz1_below hbE (by assumption) (by assumption)⟩) | (have _t := tok1; go_split_ands; exact ⟨(hbD.cell (cell_lt (by assumption))).trans (by assumption), (hbD.cell (cell_lt (by assumption))).trans (by assumption), cellD_below hbD (by assumption), frz1_below hbD (by assumption) (by assumption)⟩))
              (first
                | (have _t := tok0; go_at_call 29; refine (HNu.out _).mono ?_; rintro e wD ⟨⟨nA, nC, rfl, hnS⟩, hbD⟩; clear tok0; have tok1 : True := trivial)
                | (have _t := tok1; go_at_call 30; refine (HByL.out _ _ _ ((Below.refl _ w7).drew.trans hbD) hnS).mono ?_; rintro e wF ⟨⟨mF, rfl⟩, hbE⟩; clear tok1; have tok2 : True := trivial))
            all_goals
              have hbX : Below w7.heap.size w7 wF := ((Below.refl _ w7).drew.trans hbD).trans (hbE.mono ((Below.refl _ w7).drew.trans hbD).size)
              obtain ⟨w8, hw8⟩ : ∃ w8 : World, w8 = wF.setCell ⟨w2.heap.size, 14, none⟩ (.map (some mF)) := ⟨_, rfl⟩
              have hbX2 : Below w2.heap.size w2 wF := HB7.out.trans (hbX.mono HB7.out.size)
              have sA := (hbX.block _ (Array.getElem?_eq_some_iff.1 HS7.out).1).trans HS7.out
              have vA := (hbX.block _ (Array.getElem?_eq_some_iff.1 HV7.out).1).trans HV7.out
              have lA : LatAt wF bl b bu bd P.nl up down (lastOf (fullS down P.nl) 0 P.nl) := HLat.out.below hbX
              have s8 : w8.heap[w2.heap.size]? = some (.cells (snC ⟨b0, b1, b2, b3, b4, b5, b6, b7, b8, d0, d1, d2, d3, d4, d5, d6, d7, d8⟩ P (.pointer (some ⟨bl, 0, none⟩)) (.string txt) (.map (some mB)) (.map (some mC)) (.map (some mE)) (.map (some mF))) 85) := by rw [hw8]; exact heap_set (o := 14) _ sA
              have v8 : w8.heap[w2.heap.size + 1]? = some (.cells #[.pointer (some ⟨w2.heap.size, 0, none⟩)] 32) := by rw [hw8]; exact (heap_setne _ (by omega)).trans vA
              have hk8 : Kept (fun k => k ≠ w2.heap.size) wF w8 := by rw [hw8]; exact (Kept.refl _ wF).setCell (by simp) _
              have hb8 : Below w2.heap.size w2 w8 := by rw [hw8]; exact hbX2.setCell (Nat.le_refl _) _
              have hlat8 := latAt_snap lA sA hk8
              have HLat := Lib.hid hlat8
              have HS8 := Lib.hid s8; have HV8 := Lib.hid v8; have HB8 := Lib.hid hb8; have HW8 := Lib.hid hw8
              have z0 := cell_of (o := 0) v8
              have hsn : SnapAt w8 w2.heap.size ⟨b0, b1, b2, b3, b4, b5, b6, b7, b8, d0, d1, d2, d3, d4, d5, d6, d7, d8⟩ P bl b bu bd P.up down (lastOf (fullS down P.nl) 0 P.nl) :=
                ⟨snBox s8, cell_of (o := 9) s8, HQ2.out.below hb8, by rw [HUp2.out]; exact hlat8, by rw [HUp2.out]; exact HOk.out, HSm.out⟩
              have htb : Tab P.nl P.up down := by
                have h1 := HUp.out
                rw [HAdd.out] at h1
                simp only [Option.some.injEq, Prod.mk.injEq] at h1
                obtain ⟨h1, h2⟩ := h1
                rw [h2]; exact HTab.out
              have HSN := Lib.hid hsn; have HTB := Lib.hid htb
              have HBF := Lib.hid (HB2.out.trans (hb8.mono HB2.out.size))
              clear hw8 hbD hbE hbX hbX2 sA vA lA s8 v8 hk8 hb8 hlat8 n0 n1 n3 n4 hnS HNu HByL tok2 hsn htb
              go_upto_region 13 with fail
              rw [← HW8.out]
              go_wp2_with fail
              go_ret2
              exact ⟨.inr ⟨HC.out, _, _, _, _, _, _, _, _, rfl, HSN.out, HTB.out, HFQ.out, HB2.out.size⟩, HBF.out⟩
  · have HC := Lib.hid hc
    have hc2 : (P.code == 0) = false := by simpa using hc
    clear hc
    go_enter Tryz.func9, Tryz.ntmps9
    go_wp2_with fail
    rw [← HW.out]
    refine HPr.out.mono ?_
    rintro e w1 ⟨hcase, hb1⟩
    obtain ⟨-, rfl⟩ := hcase.resolve_right (fun h => HC.out h.1)
    have hb2 := HB0.out.trans (hb1.mono HB0.out.size)
    have HB2 := Lib.hid hb2; clear hb2 hb1 hcase
    go_wp2_with fail
    go_ret2
    exact ⟨.inl ⟨HC.out, rfl⟩, HB2.out⟩
end Go.Proofs.YteblahoijolegaaGreatDoor
end
