import Derived.Test.YteblahoijolegaaGreatDoorM23
import Derived.BigQuiet
import Derived.BigRegion
import Derived.ChangeAlike
import Derived.Deep.DeepCutAuto
import Derived.Deep.Light
import Derived.Deep.LoopGhost
import Derived.Deep.MidRow
import Derived.Deep.QuietTactic
import Derived.Deep.RegionHeld3
import Derived.Deep.WholeRow
import Derived.Defers
import Derived.Great.Walk
import Derived.Laws.BitsAllLaws
import Derived.Laws.CopyOwn
import Derived.Laws.EntriesVeiled
import Derived.Laws.LoneSync
import Derived.Laws.Pointers
import Derived.Laws.StructEq
import Derived.Lib.Hide
import Derived.Lib.LazyBuf
import Derived.Lib.SliceRun
import Derived.LoopIn
import Derived.LoopNIn
import Derived.Maps.AppendAt
import Derived.OwnWalkIn
import Derived.RangeFuncBox
import Derived.RangeFuncKeeps
import Derived.RangeFuncLeaves
import Derived.RangeFuncSeq
import Derived.RegionCalls
import Derived.RegionIn
import Derived.RegionTactic
import Derived.Shelf.Abstract
import Derived.TacticsInMore
import Derived.Test.YteblahoijolegaaGreatDoorShelf
import Derived.WalkKit
import Derived.WalkLawsBesides
import Derived.WalkSpells
import Derived.WideLaws
import Derived.Test.YteblahoijolegaaGreatDoorM22
section
set_option linter.all false
namespace Go.Proofs.YteblahoijolegaaGreatDoor
open Go.RowKit

/-- a snapshot in memory -/
structure SnapAt (w : World) (s : Nat) (q : PolPtr) (P : Pol) (l b bu bd : Nat) (up down : List Nat) (hi : Int) : Prop where
  box : PolBox w s 0 q P
  latp : w.cell? ⟨s, 9, none⟩ = some (.pointer (some ⟨l, 0, none⟩))
  pol : PolAt w q P
  lat : LatAt w l b bu bd P.nl up down hi
  ok : OrdOk P.nl up down
  small : P.Small
theorem SnapAt.below {w w' : World} {s : Nat} {q : PolPtr} {P : Pol} {l b bu bd : Nat} {up down : List Nat} {hi : Int} (h : SnapAt w s q P l b bu bd up down hi) (hb : Below w.heap.size w w') : SnapAt w' s q P l b bu bd up down hi :=
  ⟨h.box.below hb, (hb.cell (p := ⟨s, 9, none⟩) (cell_lt h.latp)).trans h.latp, h.pol.below hb, h.lat.below hb, h.ok, h.small⟩
section
variable {w : World} {s : Nat} {q : PolPtr} {P : Pol} {l b bu bd : Nat} {up down : List Nat} {hi : Int}
theorem snap_none (h : SnapAt w s q P l b bu bd up down hi) : Calls Tryz.prog 74 #[.pointer (some ⟨s, 0, none⟩)] w fun e w' => e = .returned (.bool false) ∧ w = w' := by
  have l0 := h.latp
  clear h
  go_enter Tryz.func74, Tryz.ntmps74
  go_wp2
  go_ret
  exact ⟨rfl, rfl⟩
theorem snap_Many (h : SnapAt w s q P l b bu bd up down hi) : Calls Tryz.prog 133 #[.pointer (some ⟨s, 0, none⟩)] w fun e w' => e = .returned (.int .i64 P.nw) ∧ w = w' := by
  have hn := snap_none h
  have l0 := h.box.tail.tail.tail.tail.head
  simp only [Nat.zero_add] at l0
  clear h
  go_enter Tryz.func133, Tryz.ntmps133
  go_wp2_with fail
  refine hn.mono ?_
  rintro e w1 ⟨rfl, rfl⟩
  go_wp2_with fail
  go_ret
  exact ⟨rfl, rfl⟩
theorem snap_is (h : SnapAt w s q P l b bu bd up down hi) (a : Int) : Calls Tryz.prog 62 #[.pointer (some ⟨s, 0, none⟩), .int .i64 a] w fun e w' => e = .returned (.bool (labB P.nl a)) ∧ w = w' := by
  have hn := snap_none h
  have l0 := h.box.head
  simp only [Nat.zero_add] at l0
  clear h
  by_cases h0 : 0 ≤ a
  · go_enter Tryz.func62, Tryz.ntmps62
    go_wp2_with fail
    refine hn.mono ?_
    rintro e w1 ⟨rfl, rfl⟩
    go_wp2_with fail
    go_ret
    exact ⟨by simp [labB, h0], rfl⟩
  · have : labB P.nl a = false := decide_eq_false (by omega)
    rw [this]
    go_enter Tryz.func62, Tryz.ntmps62
    go_wp2_with fail
    refine hn.mono ?_
    rintro e w1 ⟨rfl, rfl⟩
    go_wp2_with fail
    go_ret
    exact ⟨rfl, rfl⟩
/-- at most, as the snapshot says it -/
def sLeq (n : Nat) (up : List Nat) (a c : Int) : Bool := labB n a && (labB n c && leqO up a c)
theorem snap_Leq (h : SnapAt w s q P l b bu bd up down hi) (a c : Int) : Calls Tryz.prog 16 #[.pointer (some ⟨s, 0, none⟩), .int .i64 a, .int .i64 c] w fun e w' => e = .returned (.bool (sLeq P.nl up a c)) ∧ w = w' := by
  have ha := snap_is h a
  have hc := snap_is h c
  have hq := lat_Leq h.lat h.ok a c
  have l0 := h.latp
  clear h
  cases e1 : labB P.nl a
  · rw [show sLeq P.nl up a c = false by rw [sLeq, e1]; rfl]
    rw [e1] at ha
    go_enter Tryz.func16, Tryz.ntmps16
    go_wp2_with fail
    refine ha.mono ?_
    rintro e w1 ⟨rfl, rfl⟩
    go_wp2_with fail
    go_ret
    exact ⟨rfl, rfl⟩
  · rw [e1] at ha
    cases e2 : labB P.nl c
    · rw [show sLeq P.nl up a c = false by rw [sLeq, e1, e2]; rfl]
      rw [e2] at hc
      go_enter Tryz.func16, Tryz.ntmps16
      go_wp2_with fail
      refine ha.mono ?_
      rintro e w1 ⟨rfl, rfl⟩
      go_wp2_with fail
      refine hc.mono ?_
      rintro e w1 ⟨rfl, rfl⟩
      go_wp2_with fail
      go_ret
      exact ⟨rfl, rfl⟩
    · rw [show sLeq P.nl up a c = leqO up a c by rw [sLeq, e1, e2]; rfl]
      rw [e2] at hc
      go_enter Tryz.func16, Tryz.ntmps16
      go_wp2_with fail
      refine ha.mono ?_
      rintro e w1 ⟨rfl, rfl⟩
      go_wp2_with fail
      refine hc.mono ?_
      rintro e w1 ⟨rfl, rfl⟩
      go_wp2_with fail
      refine hq.mono ?_
      rintro e w1 ⟨rfl, rfl⟩
      go_wp2_with fail
      go_ret
      exact ⟨rfl, rfl⟩
def sJoin (n : Nat) (up : List Nat) (hi a c : Int) : Value := if labB n a && labB n c then .tuple #[.int .i64 (latJoin up n hi a c), .int .i64 0] else .tuple #[.int .i64 0, .int .i64 9]
theorem snap_Join (h : SnapAt w s q P l b bu bd up down hi) (a c : Int) : Calls Tryz.prog 21 #[.pointer (some ⟨s, 0, none⟩), .int .i64 a, .int .i64 c] w fun e w' => e = .returned (sJoin P.nl up hi a c) ∧ w = w' := by
  have hn := snap_none h
  have ha := snap_is h a
  have hc := snap_is h c
  have hq := lat_Join h.lat h.small.nl a c
  have l0 := h.latp
  clear h
  cases e1 : labB P.nl a
  · rw [show sJoin P.nl up hi a c = .tuple #[.int .i64 0, .int .i64 9] by rw [sJoin, e1]; rfl]
    rw [e1] at ha
    go_enter Tryz.func21, Tryz.ntmps21
    go_wp2_with fail
    refine hn.mono ?_
    rintro e w1 ⟨rfl, rfl⟩
    go_wp2_with fail
    refine ha.mono ?_
    rintro e w1 ⟨rfl, rfl⟩
    go_wp2_with fail
    go_ret2
    exact ⟨rfl, rfl⟩
  · rw [e1] at ha
    cases e2 : labB P.nl c
    · rw [show sJoin P.nl up hi a c = .tuple #[.int .i64 0, .int .i64 9] by rw [sJoin, e1, e2]; rfl]
      rw [e2] at hc
      go_enter Tryz.func21, Tryz.ntmps21
      go_wp2_with fail
      refine hn.mono ?_
      rintro e w1 ⟨rfl, rfl⟩
      go_wp2_with fail
      refine ha.mono ?_
      rintro e w1 ⟨rfl, rfl⟩
      go_wp2_with fail
      refine hc.mono ?_
      rintro e w1 ⟨rfl, rfl⟩
      go_wp2_with fail
      go_ret2
      exact ⟨rfl, rfl⟩
    · rw [show sJoin P.nl up hi a c = .tuple #[.int .i64 (latJoin up P.nl hi a c), .int .i64 0] by rw [sJoin, e1, e2]; rfl]
      rw [e2] at hc
      go_enter Tryz.func21, Tryz.ntmps21
      go_wp2_with fail
      refine hn.mono ?_
      rintro e w1 ⟨rfl, rfl⟩
      go_wp2_with fail
      refine ha.mono ?_
      rintro e w1 ⟨rfl, rfl⟩
      go_wp2_with fail
      refine hc.mono ?_
      rintro e w1 ⟨rfl, rfl⟩
      go_wp2_with fail
      refine hq.mono ?_
      rintro e w1 ⟨rfl, rfl⟩
      go_wp2_with fail
      go_ret2
      exact ⟨rfl, rfl⟩
set_option maxHeartbeats 8000000 in
set_option maxRecDepth 20000 in
theorem snap_Policy (h : SnapAt w s q P l b bu bd up down hi) : Calls Tryz.prog 64 #[.pointer (some ⟨s, 0, none⟩)] w fun e w' => (∃ q', e = .returned (.agg (polCells q' P)) ∧ PolAt w' q' P) ∧ Below w.heap.size w w' := by
  obtain ⟨w0, hw0⟩ : ∃ w0 : World, w0 = w.alloc (.cells #[.slice none 0 0, .slice none 0 0, .slice none 0 0, .slice none 0 0, .slice none 0 0, .slice none 0 0, .slice none 0 0, .slice none 0 0, .slice none 0 0] 30) := ⟨_, rfl⟩
  have hb0 : Below w.heap.size w w0 := by rw [hw0]; (repeat first | exact Below.refl _ _ | assumption | refine Below.alloc ?_ (by simp; try omega) _ | refine Below.drew ?_ | refine Below.drewN ?_ _ | refine Below.setCell ?_ (by simp; try omega) _ | refine Below.trans ?_ (Below.mono (by assumption) (by simp; try omega)))
  have h0 := h.below hb0
  have hn := snap_none h0
  have hc := policy_Copy h0.pol h.small
  have hbx := h0.box
  simp only [PolBox, Nat.zero_add] at hbx
  have x0 := hbx.head; have x1 := hbx.tail.head; have x2 := hbx.tail.tail.head; have x3 := hbx.tail.tail.tail.head; have x4 := hbx.tail.tail.tail.tail.head; have x5 := hbx.tail.tail.tail.tail.tail.head; have x6 := hbx.tail.tail.tail.tail.tail.tail.head; have x7 := hbx.tail.tail.tail.tail.tail.tail.tail.head; have x8 := hbx.tail.tail.tail.tail.tail.tail.tail.tail.head
  have g2 : w0.heap[w.heap.size]? = some (.cells #[.slice none 0 0, .slice none 0 0, .slice none 0 0, .slice none 0 0, .slice none 0 0, .slice none 0 0, .slice none 0 0, .slice none 0 0, .slice none 0 0] 30) := by rw [hw0]; (simp only [heap_drew, heap_allocs, World.size_alloc, if_true] <;> repeat (first | rw [if_pos (by omega)] | rw [if_neg (by omega)]))
  have hsz : w0.heap.size = w.heap.size + 1 := by rw [hw0]; simp
  have hi : (Tryz.prog.info? 30).map (·.size) = some 9 := by kernel_rfl
  have HI := Lib.hid hi; clear hi
  have HW := Lib.hid hw0; clear hw0
  clear h h0 hbx
  go_enter Tryz.func64, Tryz.ntmps64
  go_wp2_with fail
  rw [← HW.out]
  refine hn.mono ?_
  rintro e w1 ⟨rfl, rfl⟩
  have HC := Lib.hid hc; clear hc
  have HSN := Lib.hid hsz; clear hsz
  have G2 := Lib.hid g2
  have HB0 := Lib.hid hb0
  go_wp2_with fail
  refine HC.out.mono ?_
  rintro e w1 ⟨⟨q', rfl, hq⟩, hb1⟩
  obtain ⟨b0, b1, b2, b3, b4, b5, b6, b7, b8, d0, d1, d2, d3, d4, d5, d6, d7, d8⟩ := q'
  have hg1 := (hb1.block _ (by have := HSN.out; omega)).trans G2.out
  have r0 := cell_of (o := 0) hg1
  have r1 := cell_of (o := 1) hg1
  have r2 := cell_of (o := 2) hg1
  have r3 := cell_of (o := 3) hg1
  have r4 := cell_of (o := 4) hg1
  have r5 := cell_of (o := 5) hg1
  have r6 := cell_of (o := 6) hg1
  have r7 := cell_of (o := 7) hg1
  have r8 := cell_of (o := 8) hg1
  have f0 : ∀ k, w1.frozen? ⟨w.heap.size, k, none⟩ = false := fun k => free_of hg1
  obtain ⟨wf, hwf⟩ : ∃ wf : World, wf = (((((((((w1.setCell ⟨w.heap.size, 0, none⟩ (.slice b0 P.nl d0)).setCell ⟨w.heap.size, 1, none⟩ (.slice b1 P.nb d1)).setCell ⟨w.heap.size, 2, none⟩ (.slice b2 P.ns d2)).setCell ⟨w.heap.size, 3, none⟩ (.slice b3 P.nd d3)).setCell ⟨w.heap.size, 4, none⟩ (.slice b4 P.nw d4)).setCell ⟨w.heap.size, 5, none⟩ (.slice b5 P.nr d5)).setCell ⟨w.heap.size, 6, none⟩ (.slice b6 P.nc d6)).setCell ⟨w.heap.size, 7, none⟩ (.slice b7 P.ng d7)).setCell ⟨w.heap.size, 8, none⟩ (.slice b8 P.na d8)) := ⟨_, rfl⟩
  have hgf : wf.heap[w.heap.size]? = some (.cells (polCells ⟨b0, b1, b2, b3, b4, b5, b6, b7, b8, d0, d1, d2, d3, d4, d5, d6, d7, d8⟩ P) 30) := by
    rw [hwf]
    exact heap9 hg1 _ _ _ _ _ _ _ _ _
  have hk9 : Kept (fun k => k ≠ w.heap.size) w1 wf := by
    rw [hwf]
    exact (((((((((Kept.refl _ w1).setCell (by simp) _).setCell (by simp) _).setCell (by simp) _).setCell (by simp) _).setCell (by simp) _).setCell (by simp) _).setCell (by simp) _).setCell (by simp) _).setCell (by simp) _
  have hbf : Below w.heap.size w wf := by
    have hbw := HB0.out.trans (hb1.mono HB0.out.size)
    exact hbw.trans (hk9.below hbw.size (fun k hk => by omega))
  have hpf : PolAt wf ⟨b0, b1, b2, b3, b4, b5, b6, b7, b8, d0, d1, d2, d3, d4, d5, d6, d7, d8⟩ P :=
    ⟨slOk_ne hq.h0 (by omega) hg1 (strC_ns _) hk9, slOk_ne hq.h1 (by omega) hg1 (prC_ns _) hk9, slOk_ne hq.h2 (by omega) hg1 (siiC_ns _) hk9, slOk_ne hq.h3 (by omega) hg1 (siC_ns _) hk9, slOk_ne hq.h4 (by omega) hg1 (siiC_ns _) hk9, slOk_ne hq.h5 (by omega) hg1 (rtC_ns _) hk9, slOk_ne hq.h6 (by omega) hg1 (prC_ns _) hk9, slOk_ne hq.h7 (by omega) hg1 (grC_ns _) hk9, slOk_ne hq.h8 (by omega) hg1 (strC_ns _) hk9⟩
  have HGF := Lib.hid hgf
  have HBF := Lib.hid hbf
  have HPF := Lib.hid hpf
  have HWF := Lib.hid hwf
  clear hq hg1 hgf hbf hpf hk9 hwf
  simp only [polCells]
  go_wp2_with fail
  rw [← HWF.out]
  refine bodyPost_ret (results_cell_row rfl _ _ _ _ _ _ _ rfl HGF.out Tryz.underlying30 rfl HI.out) rfl ?_
  exact ⟨⟨_, rfl, HPF.out⟩, HBF.out⟩
end
end Go.Proofs.YteblahoijolegaaGreatDoor
end
section
set_option linter.all false
namespace Go.Proofs.YteblahoijolegaaGreatDoor
open Go.RowKit

/-- an order, as its two tables tell it -/
structure Tab (n : Nat) (up down : List Nat) : Prop where
  small : n ≤ 16
  lu : up.length = n
  ld : down.length = n
  ubd : ∀ s ∈ up, s < 2 ^ n
  dbd : ∀ s ∈ down, s < 2 ^ n
  refl : ∀ a : Nat, a < n → (up[a]?.getD 0).testBit a = true
  trans : ∀ a b c : Nat, (up[a]?.getD 0).testBit b = true → (up[b]?.getD 0).testBit c = true → (up[a]?.getD 0).testBit c = true
  dual : ∀ a b : Nat, (up[a]?.getD 0).testBit b = (down[b]?.getD 0).testBit a
theorem testBit_lt {n s x : Nat} (h : s < 2 ^ n) (hx : s.testBit x = true) : x < n := by
  rcases Nat.lt_or_ge x n with h1 | h1
  · exact h1
  · rw [Nat.testBit_lt_two_pow (Nat.lt_of_lt_of_le h (Nat.pow_le_pow_right (by omega) h1))] at hx; simp at hx
theorem getD_bit_len {l : List Nat} {a b : Nat} (h : (l[a]?.getD 0).testBit b = true) : a < l.length := by
  rcases Nat.lt_or_ge a l.length with h1 | h1
  · exact h1
  · rw [List.getElem?_eq_none h1] at h; simp at h
theorem mem_lows {s x : Nat} : x ∈ lows s ↔ x < 16 ∧ s.testBit x = true := by simp [lows]
theorem orAt_get (v : Nat) (j : Nat) : ∀ (is : List Nat) (l : List Nat), (orAt l v is)[j]?.getD 0 = if j ∈ is ∧ j < l.length then (l[j]?.getD 0) ||| v else l[j]?.getD 0
  | [], l => by simp [orAt]
  | a :: r, l => by
    have ih := orAt_get v j r (l.set a (l[a]?.getD 0 ||| v))
    have e : orAt l v (a :: r) = orAt (l.set a (l[a]?.getD 0 ||| v)) v r := rfl
    rw [e, ih, List.length_set]
    by_cases hj : j < l.length
    · by_cases ha : a = j
      · subst ha
        have : (l.set a (l[a]?.getD 0 ||| v))[a]?.getD 0 = l[a]?.getD 0 ||| v := by simp [hj]
        rw [this]
        by_cases hr : a ∈ r <;> simp [hj, hr, Nat.or_assoc]
      · have h1 : (l.set a (l[a]?.getD 0 ||| v))[j]?.getD 0 = l[j]?.getD 0 := by simp [List.getElem?_set, ha]
        have h2 : j ≠ a := fun e => ha e.symm
        rw [h1]
        simp [h2]
    · have h1 : (l.set a (l[a]?.getD 0 ||| v))[j]?.getD 0 = l[j]?.getD 0 := by
        rw [List.getElem?_eq_none (by simp; omega), List.getElem?_eq_none (by omega)]
      rw [h1]
      simp [hj]
theorem Tab.lt {n : Nat} {up down : List Nat} (k : Tab n up down) {a b : Nat} (h : (up[a]?.getD 0).testBit b = true) : a < n ∧ b < n :=
  ⟨by rw [← k.lu]; exact getD_bit_len h, testBit_lt (getD_lt2 k.ubd a) h⟩
theorem Tab.addUp {n : Nat} {up down : List Nat} (k : Tab n up down) (lo hi a b : Nat) :
    ((orAt up (up[hi]?.getD 0) (lows (down[lo]?.getD 0)))[a]?.getD 0).testBit b = ((up[a]?.getD 0).testBit b || ((up[a]?.getD 0).testBit lo && (up[hi]?.getD 0).testBit b)) := by
  rw [orAt_get]
  have hs := k.small
  by_cases h : a ∈ lows (down[lo]?.getD 0) ∧ a < up.length
  · have h1 : (up[a]?.getD 0).testBit lo = true := by rw [k.dual]; exact (mem_lows.1 h.1).2
    rw [if_pos h, Nat.testBit_or, h1, Bool.true_and]
  · have h1 : (up[a]?.getD 0).testBit lo = false := by
      cases hx : (up[a]?.getD 0).testBit lo
      · rfl
      · have := k.lt hx
        exact absurd ⟨mem_lows.2 ⟨by omega, by rw [← k.dual]; exact hx⟩, by rw [k.lu]; exact this.1⟩ h
    rw [if_neg h, h1, Bool.false_and, Bool.or_false]
theorem Tab.addDown {n : Nat} {up down : List Nat} (k : Tab n up down) (lo hi a b : Nat) :
    ((orAt down (down[lo]?.getD 0) (lows (up[hi]?.getD 0)))[b]?.getD 0).testBit a = ((up[a]?.getD 0).testBit b || ((up[a]?.getD 0).testBit lo && (up[hi]?.getD 0).testBit b)) := by
  rw [orAt_get]
  have hs := k.small
  by_cases h : b ∈ lows (up[hi]?.getD 0) ∧ b < down.length
  · have h1 : (up[hi]?.getD 0).testBit b = true := (mem_lows.1 h.1).2
    rw [if_pos h, Nat.testBit_or, h1, Bool.and_true, k.dual a b, k.dual a lo]
  · have h1 : (up[hi]?.getD 0).testBit b = false := by
      cases hx : (up[hi]?.getD 0).testBit b
      · rfl
      · have := k.lt hx
        exact absurd ⟨mem_lows.2 ⟨by omega, hx⟩, by rw [k.ld]; exact this.2⟩ h
    rw [if_neg h, h1, Bool.and_false, Bool.or_false, k.dual a b]
theorem Tab.add {n : Nat} {up down : List Nat} (k : Tab n up down) (lo hi : Nat) : Tab n (orAt up (up[hi]?.getD 0) (lows (down[lo]?.getD 0))) (orAt down (down[lo]?.getD 0) (lows (up[hi]?.getD 0))) where
  small := k.small
  lu := (orAt_len _ _ _).trans k.lu
  ld := (orAt_len _ _ _).trans k.ld
  ubd := orAt_lt up _ _ k.ubd (getD_lt2 k.ubd hi)
  dbd := orAt_lt down _ _ k.dbd (getD_lt2 k.dbd lo)
  refl := fun a ha => by rw [k.addUp, k.refl a ha, Bool.true_or]
  trans := fun a b c h1 h2 => by
    rw [k.addUp, Bool.or_eq_true, Bool.and_eq_true] at h1 h2 ⊢
    rcases h1 with h1 | ⟨h1, h1'⟩
    · rcases h2 with h2 | ⟨h2, h2'⟩
      · exact .inl (k.trans _ _ _ h1 h2)
      · exact .inr ⟨k.trans _ _ _ h1 h2, h2'⟩
    · rcases h2 with h2 | ⟨h2, h2'⟩
      · exact .inr ⟨h1, k.trans _ _ _ h1' h2⟩
      · exact .inr ⟨h1, h2'⟩
  dual := fun a b => by rw [k.addUp, k.addDown]
theorem pow_bit (a b : Nat) : (2 ^ a).testBit b = decide (a = b) := by rw [Nat.testBit_two_pow]
theorem range_pow (n a : Nat) : ((List.range n).map fun a => 2 ^ a)[a]?.getD 0 = if a < n then 2 ^ a else 0 := by
  by_cases h : a < n
  · simp [h]
  · rw [if_neg h, List.getElem?_eq_none (by simp; omega)]; rfl
theorem Tab.new {n : Nat} (h2 : n ≤ 10) : Tab n ((List.range n).map fun a => 2 ^ a) ((List.range n).map fun a => 2 ^ a) where
  small := by omega
  lu := by simp
  ld := by simp
  ubd := fun s hs => by
    obtain ⟨a, ha, rfl⟩ := List.mem_map.1 hs
    exact Nat.pow_lt_pow_right (by omega) (List.mem_range.1 ha)
  dbd := fun s hs => by
    obtain ⟨a, ha, rfl⟩ := List.mem_map.1 hs
    exact Nat.pow_lt_pow_right (by omega) (List.mem_range.1 ha)
  refl := fun a ha => by rw [range_pow, if_pos ha, pow_bit]; simp
  trans := fun a b c h1 h2 => by
    rw [range_pow] at h1 h2 ⊢
    split at h1
    · rw [pow_bit] at h1
      have := of_decide_eq_true h1
      subst this
      rw [if_pos (by assumption)] at h2 ⊢
      exact h2
    · simp at h1
  dual := fun a b => by
    rw [range_pow, range_pow]
    by_cases ha : a < n <;> by_cases hb : b < n
    · rw [if_pos ha, if_pos hb, pow_bit, pow_bit]; simp [eq_comm]
    · rw [if_pos ha, if_neg hb, pow_bit]; simp; omega
    · rw [if_neg ha, if_pos hb, pow_bit]; simp; omega
    · rw [if_neg ha, if_neg hb]; simp
theorem addAll_tab {n : Nat} : ∀ (E : List (Nat × Nat)) {up down up' down' : List Nat}, Tab n up down → addAll E up down = some (up', down') → Tab n up' down'
  | [], _, _, _, _, k, h => by simp only [addAll, Option.some.injEq, Prod.mk.injEq] at h; obtain ⟨rfl, rfl⟩ := h; exact k
  | (lo, hi) :: r, _, _, _, _, k, h => by
    rw [addAll] at h
    split at h
    · cases h
    · exact addAll_tab r (k.add lo hi) h
theorem leqO_nat {n : Nat} {up down : List Nat} (k : Tab n up down) (a b : Nat) : leqO up a b = (up[a]?.getD 0).testBit b := by
  unfold leqO
  simp only [Int.toNat_natCast]
  cases h : (up[a]?.getD 0).testBit b
  · simp
  · have := k.lt h
    have hl := k.lu
    rw [Bool.and_true, Bool.and_eq_true, decide_eq_true_iff, decide_eq_true_iff]
    omega
theorem lab_cast {n : Nat} {a : Int} (h : labB n a = true) : ∃ x : Nat, a = x ∧ x < n := ⟨a.toNat, by have := of_decide_eq_true h; omega, by have := of_decide_eq_true h; omega⟩
theorem lab_of {n x : Nat} (h : x < n) : labB n x = true := decide_eq_true (by omega)
theorem leqO_lab {n : Nat} {up down : List Nat} (k : Tab n up down) {a b : Int} (h : leqO up a b = true) : labB n a = true ∧ labB n b = true := by
  unfold leqO at h
  rw [Bool.and_eq_true, Bool.and_eq_true, decide_eq_true_iff, decide_eq_true_iff, k.lu] at h
  exact ⟨decide_eq_true h.1, decide_eq_true h.2.1⟩
theorem sLeq_eq {n : Nat} {up down : List Nat} (k : Tab n up down) (a b : Int) : sLeq n up a b = leqO up a b := by
  unfold sLeq
  cases h : leqO up a b
  · simp
  · have := leqO_lab k h
    rw [this.1, this.2]; rfl
theorem leqO_refl {n : Nat} {up down : List Nat} (k : Tab n up down) {a : Int} (h : labB n a = true) : leqO up a a = true := by
  obtain ⟨x, rfl, hx⟩ := lab_cast h
  rw [leqO_nat k]; exact k.refl x hx
theorem leqO_trans {n : Nat} {up down : List Nat} (k : Tab n up down) {a b c : Int} (h1 : leqO up a b = true) (h2 : leqO up b c = true) : leqO up a c = true := by
  obtain ⟨x, rfl, -⟩ := lab_cast (leqO_lab k h1).1
  obtain ⟨y, rfl, -⟩ := lab_cast (leqO_lab k h1).2
  obtain ⟨z, rfl, -⟩ := lab_cast (leqO_lab k h2).2
  rw [leqO_nat k] at *
  exact k.trans _ _ _ h1 h2
theorem bestFrom_mem {ah : Int → Int → Bool} {xs : List Int} : ∀ l : List Int, 0 ≤ bestFrom ah xs l → bestFrom ah xs l ∈ l
  | [], h => by simp [bestFrom] at h
  | a :: r, h => by
    rw [bestFrom] at h ⊢
    split at h
    · next h0 => rw [if_pos h0]; simp
    · next h0 => rw [if_neg h0]; exact List.mem_cons_of_mem _ (bestFrom_mem r h)
theorem mem_lowsI {s : Nat} {x : Int} (h : x ∈ lowsI s) : ∃ y : Nat, x = y ∧ s.testBit y = true := by
  simp only [lowsI, List.mem_map] at h
  obtain ⟨y, hy, rfl⟩ := h
  exact ⟨y, rfl, (mem_lows.1 hy).2⟩
theorem join_above {n : Nat} {up down : List Nat} (k : Tab n up down) {a b : Nat} (h : 0 ≤ joinS up a b) : leqO up a (joinS up a b) = true ∧ leqO up b (joinS up a b) = true := by
  have h1 := bestFrom_mem (ah := leqO up) _ h
  rw [bothOf, List.mem_filter] at h1
  obtain ⟨y, hy, h2⟩ := mem_lowsI h1.1
  obtain ⟨z, hz, h3⟩ := mem_lowsI (by simpa using h1.2)
  have e : joinS up a b = y := hy
  rw [e, leqO_nat k, leqO_nat k]
  have : y = z := by have := hy.symm.trans hz; exact Int.ofNat.inj this
  subst this
  exact ⟨h2, h3⟩
theorem Pol.Good.tab {P : Pol} (g : P.Good) : ∃ down, P.upO = some (P.up, down) ∧ Tab P.nl P.up down ∧ wholeB P.up down P.nl = true ∧ 1 ≤ P.nl ∧ P.nl ≤ 10 := by
  have h := g.mk0
  unfold Pol.mk1 mkCode at h
  split at h
  · omega
  · next h1 =>
    split at h
    · omega
    · split at h
      · omega
      · have e : P.upO = addAll ((List.range P.nb).map fun i => ((P.bel i).1.toNat, (P.bel i).2.toNat)) ((List.range P.nl).map fun a => 2 ^ a) ((List.range P.nl).map fun a => 2 ^ a) := rfl
        rw [← e] at h
        cases hx : P.upO with
        | none => rw [hx] at h; simp at h
        | some x =>
          obtain ⟨up, down⟩ := x
          rw [hx] at h
          simp only [] at h
          have hu : P.up = up := by rw [Pol.up, hx]
          rw [hu]
          refine ⟨down, rfl, addAll_tab _ (Tab.new (by omega)) (e.symm.trans hx), ?_, by omega, by omega⟩
          cases hw : wholeB up down P.nl
          · rw [hw] at h; simp at h
          · rfl
theorem whole_join {up down : List Nat} {n a b : Nat} (h : wholeB up down n = true) (ha : a < n) (hb : b < n) : 0 ≤ joinS up a b := (of_decide_eq_true h a ha b hb).1
end Go.Proofs.YteblahoijolegaaGreatDoor
end
