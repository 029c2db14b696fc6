import Derived.Test.YteblahoijolegaaGreatDoorM33
import Derived.Test.YteblahoijolegaaGreatDoorM35
import Derived.BigQuiet
import Derived.BigRegion
import Derived.ChangeAlike
import Derived.Deep.DeepCutAuto
import Derived.Deep.Light
import Derived.Deep.LoopGhost
import Derived.Deep.MidRow
import Derived.Deep.QuietTactic
import Derived.Deep.RegionHeld3
import Derived.Deep.WholeRow
import Derived.Defers
import Derived.Great.Walk
import Derived.Laws.BitsAllLaws
import Derived.Laws.CopyOwn
import Derived.Laws.EntriesVeiled
import Derived.Laws.LoneSync
import Derived.Laws.Pointers
import Derived.Laws.StructEq
import Derived.Lib.Hide
import Derived.Lib.LazyBuf
import Derived.Lib.SliceRun
import Derived.LoopIn
import Derived.LoopNIn
import Derived.Maps.AppendAt
import Derived.OwnWalkIn
import Derived.RangeFuncBox
import Derived.RangeFuncKeeps
import Derived.RangeFuncLeaves
import Derived.RangeFuncSeq
import Derived.RegionCalls
import Derived.RegionIn
import Derived.RegionTactic
import Derived.Shelf.Abstract
import Derived.TacticsInMore
import Derived.Test.YteblahoijolegaaGreatDoorShelf
import Derived.WalkKit
import Derived.WalkLawsBesides
import Derived.WalkSpells
import Derived.WideLaws
section
set_option linter.all false
namespace Go.Proofs.YteblahoijolegaaGreatDoor
open Go.RowKit

/-- the chapter's policy -/
def chP : Pol where
  nl := 2
  nb := 1
  ns := 0
  nd := 0
  nw := 2
  nr := 0
  nc := 0
  ng := 1
  na := 0
  lab := fun i => if i = 0 then ⟨#[108, 111, 119]⟩ else ⟨#[104, 105, 103, 104]⟩
  bel := fun _ => (0, 1)
  src := fun _ => (⟨#[]⟩, 0, 0)
  dst := fun _ => (⟨#[]⟩, 0)
  wrk := fun i => if i = 0 then (⟨#[97]⟩, 0, 1) else (⟨#[98]⟩, 0, 1)
  rte := fun _ => (⟨#[]⟩, ⟨#[]⟩, 0, 0)
  cal := fun _ => (0, 0)
  grt := fun _ => (⟨#[103]⟩, 0, 1, 0, ⟨#[47, 120]⟩)
  alw := fun _ => ⟨#[]⟩
theorem chP_code : chP.code = 0 := by decide +kernel
theorem chP_sized : chP.Sized where
  lab := fun i hi => by rcases (show i = 0 ∨ i = 1 by have : i < 2 := hi; omega) with rfl | rfl <;> decide
  src := fun i hi => absurd hi (Nat.not_lt_zero _)
  dst := fun i hi => absurd hi (Nat.not_lt_zero _)
  wrk := fun i hi => by rcases (show i = 0 ∨ i = 1 by have : i < 2 := hi; omega) with rfl | rfl <;> decide
  rte := fun i hi => absurd hi (Nat.not_lt_zero _)
  grt := fun i hi => ⟨by show (1 : Nat) ≤ _; omega, by show (2 : Nat) ≤ _; omega⟩
  alw := fun i hi => absurd hi (Nat.not_lt_zero _)
set_option maxHeartbeats 4000000 in
set_option maxRecDepth 20000 in
theorem law_chapter (w : World) (hg : GlAt w) :
    Calls Tryz.prog 39 #[] w fun e w' => (∃ s q l b bu bd down hi, e = .returned (.pointer (some ⟨s, 0, none⟩)) ∧ SnapAt w' s q chP l b bu bd chP.up down hi) ∧ Below w.heap.size w w' := by
  obtain ⟨w0, hw0⟩ : ∃ w0 : World, w0 = (((w.alloc (.cells #[.string ⟨#[108, 111, 119]⟩, .string ⟨#[104, 105, 103, 104]⟩] 9)).alloc (.cells #[.int .i64 0, .int .i64 1] 60)).alloc (.cells #[.string ⟨#[97]⟩, .int .i64 0, .int .i64 1, .string ⟨#[98]⟩, .int .i64 0, .int .i64 1] 62)).alloc (.cells #[.string ⟨#[103]⟩, .int .i64 0, .int .i64 1, .int .i64 0, .string ⟨#[47, 120]⟩] 53) := ⟨_, rfl⟩
  have hb0 : Below w.heap.size w w0 := by rw [hw0]; (repeat first | exact Below.refl _ _ | assumption | refine Below.alloc ?_ (by simp; try omega) _ | refine Below.drew ?_ | refine Below.drewN ?_ _ | refine Below.setCell ?_ (by simp; try omega) _ | refine Below.trans ?_ (Below.mono (by assumption) (by simp; try omega)))
  have g0 : w0.heap[w.heap.size]? = some (.cells #[.string ⟨#[108, 111, 119]⟩, .string ⟨#[104, 105, 103, 104]⟩] 9) := by rw [hw0]; (simp only [heap_drew, heap_allocs, World.size_alloc, if_true] <;> repeat (first | rw [if_pos (by omega)] | rw [if_neg (by omega)]))
  have g1 : w0.heap[w.heap.size + 1]? = some (.cells #[.int .i64 0, .int .i64 1] 60) := by rw [hw0]; (simp only [heap_drew, heap_allocs, World.size_alloc, if_true] <;> repeat (first | rw [if_pos (by omega)] | rw [if_neg (by omega)]))
  have g2 : w0.heap[w.heap.size + 2]? = some (.cells #[.string ⟨#[97]⟩, .int .i64 0, .int .i64 1, .string ⟨#[98]⟩, .int .i64 0, .int .i64 1] 62) := by rw [hw0]; (simp only [heap_drew, heap_allocs, World.size_alloc, if_true] <;> repeat (first | rw [if_pos (by omega)] | rw [if_neg (by omega)]))
  have g3 : w0.heap[w.heap.size + 3]? = some (.cells #[.string ⟨#[103]⟩, .int .i64 0, .int .i64 1, .int .i64 0, .string ⟨#[47, 120]⟩] 53) := by rw [hw0]; (simp only [heap_drew, heap_allocs, World.size_alloc, if_true] <;> repeat (first | rw [if_pos (by omega)] | rw [if_neg (by omega)]))
  have hp : PolAt w0 ⟨some ⟨w.heap.size, 0, none⟩, some ⟨w.heap.size + 1, 0, none⟩, none, none, some ⟨w.heap.size + 2, 0, none⟩, none, none, some ⟨w.heap.size + 3, 0, none⟩, none, 2, 1, 0, 0, 2, 0, 0, 1, 0⟩ chP := by
    refine ⟨⟨fun h => (by simp at h), fun a h => (by cases h; rfl), Nat.le_refl _, .inr ⟨_, 0, rfl, ?_⟩⟩, ⟨fun h => (by simp at h), fun a h => (by cases h; rfl), Nat.le_refl _, .inr ⟨_, 0, rfl, ?_⟩⟩, ⟨fun _ => ⟨rfl, rfl⟩, fun a h => (by simp at h), Nat.le_refl _, .inl rfl⟩, ⟨fun _ => ⟨rfl, rfl⟩, fun a h => (by simp at h), Nat.le_refl _, .inl rfl⟩,
      ⟨fun h => (by simp at h), fun a h => (by cases h; rfl), Nat.le_refl _, .inr ⟨_, 0, rfl, ?_⟩⟩, ⟨fun _ => ⟨rfl, rfl⟩, fun a h => (by simp at h), Nat.le_refl _, .inl rfl⟩, ⟨fun _ => ⟨rfl, rfl⟩, fun a h => (by simp at h), Nat.le_refl _, .inl rfl⟩, ⟨fun h => (by simp at h), fun a h => (by cases h; rfl), Nat.le_refl _, .inr ⟨_, 0, rfl, ?_⟩⟩, ⟨fun _ => ⟨rfl, rfl⟩, fun a h => (by simp at h), Nat.le_refl _, .inl rfl⟩⟩
    · intro i hi j hj
      have hi2 : i < 2 := hi
      rw [cell_of g0]
      rcases (by omega : (i = 0 ∧ j = 0) ∨ (i = 1 ∧ j = 0)) with ⟨rfl, rfl⟩ | ⟨rfl, rfl⟩ <;> rfl
    · intro i hi j hj
      have hi2 : i < 1 := hi
      rw [cell_of g1]
      rcases (by omega : (i = 0 ∧ j = 0) ∨ (i = 0 ∧ j = 1)) with ⟨rfl, rfl⟩ | ⟨rfl, rfl⟩ <;> rfl
    · intro i hi j hj
      have hi2 : i < 2 := hi
      rw [cell_of g2]
      rcases (by omega : (i = 0 ∧ j = 0) ∨ (i = 0 ∧ j = 1) ∨ (i = 0 ∧ j = 2) ∨ (i = 1 ∧ j = 0) ∨ (i = 1 ∧ j = 1) ∨ (i = 1 ∧ j = 2)) with ⟨rfl, rfl⟩ | ⟨rfl, rfl⟩ | ⟨rfl, rfl⟩ | ⟨rfl, rfl⟩ | ⟨rfl, rfl⟩ | ⟨rfl, rfl⟩ <;> rfl
    · intro i hi j hj
      have hi2 : i < 1 := hi
      rw [cell_of g3]
      rcases (by omega : (i = 0 ∧ j = 0) ∨ (i = 0 ∧ j = 1) ∨ (i = 0 ∧ j = 2) ∨ (i = 0 ∧ j = 3) ∨ (i = 0 ∧ j = 4)) with ⟨rfl, rfl⟩ | ⟨rfl, rfl⟩ | ⟨rfl, rfl⟩ | ⟨rfl, rfl⟩ | ⟨rfl, rfl⟩ <;> rfl
  have hof := snap_Of hp chP_sized (hg.below hb0)
  have HOf := Lib.hid hof; clear hof hp g0 g1 g2 g3 hg
  have HW := Lib.hid hw0; clear hw0
  have HB0 := Lib.hid hb0; clear hb0
  go_enter Tryz.func39, Tryz.ntmps39
  go_wp2_with fail
  rw [← HW.out]
  refine HOf.out.mono ?_
  rintro e w1 ⟨hc, hb1⟩
  obtain ⟨-, s, q, l, b, bu, bd, down, hi, rfl, hs, -, -, -⟩ := hc.resolve_left (fun h => h.1 chP_code)
  have HS := Lib.hid hs; clear hs hc
  have HBZ := Lib.hid (HB0.out.trans (hb1.mono HB0.out.size)); clear hb1
  go_wp2_with fail
  go_ret
  exact ⟨⟨s, q, l, b, bu, bd, down, hi, rfl, HS.out⟩, HBZ.out⟩
end Go.Proofs.YteblahoijolegaaGreatDoor
end
section
set_option linter.all false
namespace Go.Proofs.YteblahoijolegaaGreatDoor
open Go.RowKit

theorem ch_l1 : lwsB chP chP.up 0 ⟨#[47, 121]⟩ 0 0 0 ⟨#[]⟩ 0 = true := by decide +kernel
theorem ch_l2 : lwsB chP chP.up 0 ⟨#[47, 120, 47, 49]⟩ 1 0 0 ⟨#[103]⟩ 0 = true := by decide +kernel
theorem ch_l3 : lwsB chP chP.up 0 ⟨#[47, 121]⟩ 1 0 0 ⟨#[]⟩ 160 = true := by decide +kernel
theorem ch_l4 : lwsB chP chP.up 1 ⟨#[47, 120]⟩ 1 0 0 ⟨#[]⟩ 160 = true := by decide +kernel
theorem ch_l5 : lwsB chP chP.up 1 ⟨#[47, 120]⟩ 1 1 1 ⟨#[]⟩ 0 = true := by decide +kernel
theorem ch_l6 : lwsB chP chP.up 2 ⟨#[47]⟩ 0 0 0 ⟨#[]⟩ 9 = true := by decide +kernel
theorem ch_t1 : toldB chP chP.up ⟨#[103]⟩ 1 0 = true := by decide +kernel
theorem ch_t2 : toldB chP chP.up ⟨#[103]⟩ 1 1 = false := by decide +kernel
theorem ch_t3 : toldB chP chP.up ⟨#[104]⟩ 1 0 = false := by decide +kernel
set_option maxHeartbeats 4000000 in
set_option maxRecDepth 20000 in
theorem law_works (w : World) (hg : GlAt w) : Calls Tryz.prog 12 #[] w fun e w' => e = .returned (.bool true) ∧ Below w.heap.size w w' := by
  have hc := Lib.hid (law_chapter w hg); clear hg
  go_enter Tryz.func12, Tryz.ntmps12
  go_wp2_with fail
  refine hc.out.mono ?_
  rintro e w1 ⟨⟨s, q, l, b, bu, bd, down, hi, rfl, hs⟩, hb1⟩
  have HS := Lib.hid hs; clear hs hc
  have h1 := law_lowers HS.out 0 0 0 ⟨#[47, 121]⟩ ⟨#[]⟩ 0 ⟨#[]⟩ 0
  rw [ch_l1] at h1; simp only [askV] at h1
  have H1 := Lib.hid h1; clear h1
  go_wp2_with fail
  refine H1.out.mono ?_
  rintro e w2 ⟨rfl, hb2⟩
  have HS2 := Lib.hid (HS.out.below hb2)
  have HB2 := Lib.hid (hb1.trans (hb2.mono hb1.size)); clear H1 hb2
  have h1 := law_lowers HS2.out 0 1 0 ⟨#[47, 120, 47, 49]⟩ ⟨#[]⟩ 0 ⟨#[103]⟩ 0
  rw [ch_l2] at h1; simp only [askV] at h1
  have H1 := Lib.hid h1; clear h1
  go_wp2_with fail
  refine H1.out.mono ?_
  rintro e w3 ⟨rfl, hb2⟩
  have HS3 := Lib.hid (HS2.out.below hb2)
  have HB3 := Lib.hid (HB2.out.trans (hb2.mono HB2.out.size)); clear H1 hb2
  have h1 := law_lowers HS3.out 0 1 0 ⟨#[47, 121]⟩ ⟨#[]⟩ 0 ⟨#[]⟩ 160
  rw [ch_l3] at h1; simp only [askV] at h1
  have H1 := Lib.hid h1; clear h1
  go_wp2_with fail
  refine H1.out.mono ?_
  rintro e w4 ⟨rfl, hb2⟩
  have HS4 := Lib.hid (HS3.out.below hb2)
  have HB4 := Lib.hid (HB3.out.trans (hb2.mono HB3.out.size)); clear H1 hb2
  have h1 := law_lowers HS4.out 1 1 0 ⟨#[47, 120]⟩ ⟨#[]⟩ 0 ⟨#[]⟩ 160
  rw [ch_l4] at h1; simp only [askV] at h1
  have H1 := Lib.hid h1; clear h1
  go_wp2_with fail
  refine H1.out.mono ?_
  rintro e w5 ⟨rfl, hb2⟩
  have HS5 := Lib.hid (HS4.out.below hb2)
  have HB5 := Lib.hid (HB4.out.trans (hb2.mono HB4.out.size)); clear H1 hb2
  have h1 := law_lowers HS5.out 1 1 1 ⟨#[47, 120]⟩ ⟨#[]⟩ 1 ⟨#[]⟩ 0
  rw [ch_l5] at h1; simp only [askV] at h1
  have H1 := Lib.hid h1; clear h1
  go_wp2_with fail
  refine H1.out.mono ?_
  rintro e w6 ⟨rfl, hb2⟩
  have HS6 := Lib.hid (HS5.out.below hb2)
  have HB6 := Lib.hid (HB5.out.trans (hb2.mono HB5.out.size)); clear H1 hb2
  have h1 := law_lowers HS6.out 2 0 0 ⟨#[47]⟩ ⟨#[]⟩ 0 ⟨#[]⟩ 9
  rw [ch_l6] at h1; simp only [askV] at h1
  have H1 := Lib.hid h1; clear h1
  go_wp2_with fail
  refine H1.out.mono ?_
  rintro e w7 ⟨rfl, hb2⟩
  have HS7 := Lib.hid (HS6.out.below hb2)
  have HB7 := Lib.hid (HB6.out.trans (hb2.mono HB6.out.size)); clear H1 hb2
  have h1 := grant_Told HS7.out ⟨#[103]⟩ 1 0
  rw [ch_t1] at h1
  have H1 := Lib.hid h1; clear h1
  go_wp2_with fail
  refine H1.out.mono ?_
  rintro e w8 ⟨rfl, hb2⟩
  have HS8 := Lib.hid (HS7.out.below hb2)
  have HB8 := Lib.hid (HB7.out.trans (hb2.mono HB7.out.size)); clear H1 hb2
  have h1 := grant_Told HS8.out ⟨#[103]⟩ 1 1
  rw [ch_t2] at h1
  have H1 := Lib.hid h1; clear h1
  go_wp2_with fail
  refine H1.out.mono ?_
  rintro e w9 ⟨rfl, hb2⟩
  have HS9 := Lib.hid (HS8.out.below hb2)
  have HB9 := Lib.hid (HB8.out.trans (hb2.mono HB8.out.size)); clear H1 hb2
  have h1 := grant_Told HS9.out ⟨#[104]⟩ 1 0
  rw [ch_t3] at h1
  have H1 := Lib.hid h1; clear h1
  go_wp2_with fail
  refine H1.out.mono ?_
  rintro e wa ⟨rfl, hb2⟩
  have HBa := Lib.hid (HB9.out.trans (hb2.mono HB9.out.size)); clear H1 hb2
  go_wp2_with fail
  go_ret
  exact ⟨rfl, HBa.out⟩
end Go.Proofs.YteblahoijolegaaGreatDoor
end
