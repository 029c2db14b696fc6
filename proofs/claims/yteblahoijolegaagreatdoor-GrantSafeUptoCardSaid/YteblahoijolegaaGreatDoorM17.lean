import Derived.Test.YteblahoijolegaaGreatDoorM10
import Derived.BigQuiet
import Derived.BigRegion
import Derived.ChangeAlike
import Derived.Deep.DeepCutAuto
import Derived.Deep.Light
import Derived.Deep.LoopGhost
import Derived.Deep.MidRow
import Derived.Deep.QuietTactic
import Derived.Deep.RegionHeld3
import Derived.Deep.WholeRow
import Derived.Defers
import Derived.Great.Walk
import Derived.Laws.BitsAllLaws
import Derived.Laws.CopyOwn
import Derived.Laws.EntriesVeiled
import Derived.Laws.LoneSync
import Derived.Laws.Pointers
import Derived.Laws.StructEq
import Derived.Lib.Hide
import Derived.Lib.LazyBuf
import Derived.Lib.SliceRun
import Derived.LoopIn
import Derived.LoopNIn
import Derived.Maps.AppendAt
import Derived.OwnWalkIn
import Derived.RangeFuncBox
import Derived.RangeFuncKeeps
import Derived.RangeFuncLeaves
import Derived.RangeFuncSeq
import Derived.RegionCalls
import Derived.RegionIn
import Derived.RegionTactic
import Derived.Shelf.Abstract
import Derived.TacticsInMore
import Derived.Test.YteblahoijolegaaGreatDoorShelf
import Derived.WalkKit
import Derived.WalkLawsBesides
import Derived.WalkSpells
import Derived.WideLaws
section
set_option linter.all false
namespace Go.Proofs.YteblahoijolegaaGreatDoor
open Go.RowKit

def digB (n : Int) : Bool := decide (0 ≤ n ∧ n ≤ 9007199254740991)
def digV (n : Int) : Value := if digB n then .tuple #[.string ⟨(Lib.itoa n).toArray⟩, .int .i64 0] else .tuple #[.string ⟨#[]⟩, .int .i64 9]
theorem text_Digits_small (n : Nat) (h : n < 100) (w : World) : Calls Tryz.prog 82 #[.int .i64 n] w fun e w' => e = .returned (.tuple #[.string ⟨(Lib.decDigits n).toArray⟩, .int .i64 0]) ∧ w = w' := by
  have h1 : (n : Int) ≤ 9007199254740991 := by omega
  have h0 : (0 : Int) ≤ n := by omega
  go_enter Tryz.func82, Tryz.ntmps82
  go_wp2_with fail
  refine (Tryz.strconv_Itoa_small n h w).mono ?_; rintro e w' ⟨rfl, rfl⟩
  go_wp2_with fail
  go_ret2
  exact ⟨rfl, rfl⟩
theorem lat_Make1 {w : World} {b n cp : Nat} {ao : Option Addr} (x : Int) (h : w.cell? ⟨b, 0, none⟩ = some (.slice ao n cp)) : Calls Tryz.prog 86 #[.int .i64 x, .pointer (some ⟨b, 0, none⟩)] w fun e w' => e = .returned (.bool (!labB n x)) ∧ w = w' := by
  go_enter Tryz.func86, Tryz.ntmps86
  by_cases h1 : x < 0
  · go_wp2
    go_ret
    have : labB n x = false := decide_eq_false (by omega)
    rw [this]
    exact ⟨rfl, rfl⟩
  · go_wp2
    go_ret
    have : (!labB n x) = decide ((n : Int) ≤ x) := by
      by_cases h2 : (n : Int) ≤ x
      · rw [decide_eq_true h2, labB, decide_eq_false (by omega)]; rfl
      · rw [decide_eq_false h2, labB, decide_eq_true (by omega)]; rfl
    rw [this]
    exact ⟨rfl, rfl⟩
theorem lat_Make2 {w : World} {b bf n cp : Nat} {ao : Option Addr} (x y : Int) (h : w.cell? ⟨b, 0, none⟩ = some (.slice ao n cp)) (hf : w.cell? ⟨bf, 0, none⟩ = some (.func (.func 86) #[] #[.pointer (some ⟨b, 0, none⟩)])) :
    Calls Tryz.prog 88 #[.agg #[.int .i64 x, .int .i64 y], .pointer (some ⟨bf, 0, none⟩)] w fun e w' => e = .returned (.bool (!labB n x || !labB n y)) ∧ Below w.heap.size w w' := by
  have hb : Below w.heap.size w (w.alloc (.cells #[.int .i64 x, .int .i64 y] 60)) := (Below.refl _ w).alloc (Nat.le_refl _) _
  have h1 := (hb.cell (p := ⟨b, 0, none⟩) (cell_lt h)).trans h
  have f1 := (hb.cell (p := ⟨bf, 0, none⟩) (cell_lt hf)).trans hf
  have H1 := Lib.hid (lat_Make1 x h1)
  have H2 := Lib.hid (lat_Make1 y h1)
  clear h h1
  rcases Bool.eq_false_or_eq_true (labB n x) with e | e
  · have E := Lib.hid e; clear e
    go_enter Tryz.func88, Tryz.ntmps88
    go_wp2_with fail
    refine H1.out.mono ?_; rintro e w1 ⟨rfl, rfl⟩
    rw [E.out]
    go_wp2_with fail
    refine H2.out.mono ?_; rintro e w1 ⟨rfl, rfl⟩
    go_wp2_with fail
    go_ret
    exact ⟨by rw [E.out]; rfl, hb⟩
  · have E := Lib.hid e; clear e
    go_enter Tryz.func88, Tryz.ntmps88
    go_wp2_with fail
    refine H1.out.mono ?_; rintro e w1 ⟨rfl, rfl⟩
    rw [E.out]
    go_wp2_with fail
    go_ret
    exact ⟨by rw [E.out]; rfl, hb⟩
def limB (n0 n1 n2 n3 n4 n5 n6 n7 n8 : Nat) : Bool := decide (n0 ≤ 10 ∧ n1 ≤ 45 ∧ n2 ≤ 6 ∧ n3 ≤ 6 ∧ n4 ≤ 6 ∧ n5 ≤ 12 ∧ n6 ≤ 15 ∧ n7 ≤ 6 ∧ n8 ≤ 6)
set_option maxHeartbeats 2000000 in
set_option maxRecDepth 20000 in
theorem policy_limited {w : World} {bp n0 n1 n2 n3 n4 n5 n6 n7 n8 : Nat} {a0 a1 a2 a3 a4 a5 a6 a7 a8 : Option Addr} {c0 c1 c2 c3 c4 c5 c6 c7 c8 : Nat}
    (hP : Cells w [(bp, 0, .slice a0 n0 c0), (bp, 1, .slice a1 n1 c1), (bp, 2, .slice a2 n2 c2), (bp, 3, .slice a3 n3 c3), (bp, 4, .slice a4 n4 c4), (bp, 5, .slice a5 n5 c5), (bp, 6, .slice a6 n6 c6), (bp, 7, .slice a7 n7 c7), (bp, 8, .slice a8 n8 c8)]) :
    Calls Tryz.prog 40 #[.pointer (some ⟨bp, 0, none⟩)] w fun e w' => e = .returned (.bool (limB n0 n1 n2 n3 n4 n5 n6 n7 n8)) ∧ w = w' := by
  have p0 := hP.head; have p1 := hP.tail.head; have p2 := hP.tail.tail.head; have p3 := hP.tail.tail.tail.head; have p4 := hP.tail.tail.tail.tail.head
  have p5 := hP.tail.tail.tail.tail.tail.head; have p6 := hP.tail.tail.tail.tail.tail.tail.head; have p7 := hP.tail.tail.tail.tail.tail.tail.tail.head; have p8 := hP.tail.tail.tail.tail.tail.tail.tail.tail.head
  clear hP
  go_enter Tryz.func40, Tryz.ntmps40
  go_wp2
  all_goals go_ret
  all_goals first
    | (have hm : limB n0 n1 n2 n3 n4 n5 n6 n7 n8 = false := decide_eq_false (by omega)
       rw [hm]
       exact ⟨rfl, rfl⟩)
    | (have hm : limB n0 n1 n2 n3 n4 n5 n6 n7 n8 = decide ((n8 : Int) ≤ 6) := decide_eq_decide.2 ⟨fun h => by omega, fun h => by omega⟩
       rw [hm]
       exact ⟨rfl, rfl⟩)
end Go.Proofs.YteblahoijolegaaGreatDoor
end
