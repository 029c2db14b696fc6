import Derived.Test.YteblahoijolegaaGreatDoorM03
import Derived.BigQuiet
import Derived.BigRegion
import Derived.ChangeAlike
import Derived.Deep.DeepCutAuto
import Derived.Deep.Light
import Derived.Deep.LoopGhost
import Derived.Deep.QuietTactic
import Derived.Deep.RegionHeld3
import Derived.Defers
import Derived.Laws.BitsAllLaws
import Derived.Laws.EntriesVeiled
import Derived.Laws.LoneSync
import Derived.Laws.Pointers
import Derived.Laws.StructEq
import Derived.Lib.Hide
import Derived.Lib.LazyBuf
import Derived.Lib.SliceRun
import Derived.LoopIn
import Derived.LoopNIn
import Derived.Maps.AppendAt
import Derived.OwnWalkIn
import Derived.RangeFuncBox
import Derived.RangeFuncKeeps
import Derived.RangeFuncLeaves
import Derived.RangeFuncSeq
import Derived.RegionCalls
import Derived.RegionIn
import Derived.RegionTactic
import Derived.Shelf.Abstract
import Derived.TacticsInMore
import Derived.Test.YteblahoijolegaaGreatDoorShelf
import Derived.WalkKit
import Derived.WalkLawsBesides
import Derived.WalkSpells
import Derived.WideLaws
section
set_option linter.all false
namespace Go.Proofs.YteblahoijolegaaGreatDoor
open Go.RowKit

def letterB (r : Int) : Bool := decide (97 ≤ r ∧ r ≤ 122)
def mayB (r : Int) : Bool := letterB r || (decide (48 ≤ r) && decide (r ≤ 57) || r == 45)
theorem text_Name1 (r : Int) (w : World) : Calls Tryz.prog 143 #[.int .i32 r] w fun e w' => e = .returned (.bool (letterB r)) ∧ w = w' := by
  go_enter Tryz.func143, Tryz.ntmps143
  by_cases h1 : 97 ≤ r <;> by_cases h2 : r ≤ 122
  all_goals
    go_wp2
    go_ret
    exact ⟨by simp [letterB]; omega, rfl⟩
theorem text_Name2 (r : Int) (b : Nat) (w : World) (hb : w.cell? ⟨b, 0, none⟩ = some (.func (.func 143) #[] #[])) : Calls Tryz.prog 144 #[.int .i32 r, .pointer (some ⟨b, 0, none⟩)] w fun e w' => e = .returned (.bool (mayB r)) ∧ w = w' := by
  go_enter Tryz.func144, Tryz.ntmps144
  go_wp2_with fail
  refine (text_Name1 r w).mono ?_; rintro e w' ⟨rfl, rfl⟩
  by_cases h1 : 97 ≤ r ∧ r ≤ 122
  · have e1 : letterB r = true := decide_eq_true h1
    rw [e1]
    go_wp2
    go_ret
    exact ⟨by simp [mayB, e1], rfl⟩
  · have e1 : letterB r = false := decide_eq_false h1
    rw [e1]
    clear h1
    by_cases h2 : 48 ≤ r
    · go_wp2
      · go_ret
        have hm : mayB r = (decide (r ≤ 57) || r == 45) := by simp [mayB, e1, h2]
        rw [hm]
        exact ⟨rfl, rfl⟩
      · go_ret
        have hm : mayB r = true := by simp [mayB, *]
        rw [hm]
        exact ⟨rfl, rfl⟩
    · go_wp2
      go_ret
      have hm : mayB r = (r == 45) := by simp [mayB, e1, show ¬ 48 ≤ r by omega]
      rw [hm]
      exact ⟨rfl, rfl⟩
theorem text_Name3 (r : Int) (b b2 : Nat) (w : World) (hb : w.cell? ⟨b, 0, none⟩ = some (.func (.func 143) #[] #[])) (hb2 : w.cell? ⟨b2, 0, none⟩ = some (.func (.func 144) #[] #[.pointer (some ⟨b, 0, none⟩)])) : Calls Tryz.prog 146 #[.int .i32 r, .pointer (some ⟨b2, 0, none⟩)] w fun e w' => e = .returned (.bool (!mayB r)) ∧ w = w' := by
  go_enter Tryz.func146, Tryz.ntmps146
  go_wp2_with fail
  refine (text_Name2 r b w hb).mono ?_; rintro e w' ⟨rfl, rfl⟩
  go_wp2
  go_ret
  exact ⟨rfl, rfl⟩
def nameF (s : ByteArray) : Bool := decide (0 ≤ Lib.idxFunc (fun r => !mayB (r : Nat)) true s)
def nameB (s : ByteArray) : Bool := s.size != 0 && (decide (s.size ≤ 12) && (letterB ((s.data[0]?.getD 0).toNat : Nat) && !nameF s))
def nameS (s : ByteArray) : Int := if nameB s then 0 else 31
theorem nameS_no {s : ByteArray} (h : nameB s = false) : nameS s = 31 := by simp [nameS, h]
theorem nameS_yes {s : ByteArray} (h : nameB s = true) : nameS s = 0 := by simp [nameS, h]
theorem name_emp {s : ByteArray} (h : s.size = 0) : s = ⟨#[]⟩ := by cases s with | mk d => cases d with | mk l => cases l with | nil => rfl | cons => simp [ByteArray.size] at h
theorem wrap_byte (x : UInt8) : IntKind.i32.wrap (x.toNat : Int) = x.toNat := by
  have := x.toNat_lt
  rw [IntKind.wrap_i32]; omega
theorem name_first {s : ByteArray} {b : Bool} (h : letterB ((s.data[0]?.getD 0).toNat : Nat) = b) (h0 : 0 < s.size) : letterB (IntKind.i32.wrap (s[0].toNat : Int)) = b := by
  rw [wrap_byte, ← h]
  have : s.data[0]? = some (s.data[0]'h0) := Array.getElem?_eq_getElem h0
  rw [this]; rfl
set_option maxHeartbeats 2000000 in
theorem text_Name (s : ByteArray) (w : World) : Calls Tryz.prog 84 #[.string s] w fun e w' => e = .returned (.int .i64 (nameS s)) ∧ Below w.heap.size w w' := by
  obtain ⟨wn, hwn⟩ : ∃ wn : World, wn = (w.alloc (.cells #[.func (.func 143) #[] #[]] 222)).alloc (.cells #[.func (.func 144) #[] #[.pointer (some ⟨w.heap.size, 0, none⟩)]] 222) := ⟨_, rfl⟩
  have hb0 : Below w.heap.size w wn := by rw [hwn]; exact ((Below.refl _ w).alloc (Nat.le_refl _) _).alloc (by simp) _
  have q1 : wn.cell? ⟨w.heap.size, 0, none⟩ = some (.func (.func 143) #[] #[]) := by rw [hwn]; exact cell_of (o := 0) ((heap_old (by simp)).trans (heap_new w _))
  have q2 : wn.cell? ⟨w.heap.size + 1, 0, none⟩ = some (.func (.func 144) #[] #[.pointer (some ⟨w.heap.size, 0, none⟩)]) := by rw [hwn]; exact cell_of (o := 0) (by have := heap_new (w.alloc (.cells #[.func (.func 143) #[] #[]] 222)) (.cells #[.func (.func 144) #[] #[.pointer (some ⟨w.heap.size, 0, none⟩)]] 222); rwa [World.size_alloc] at this)
  have HW := Lib.hid hwn; clear hwn
  by_cases h0 : s.size = 0
  · have hr := nameS_no (s := s) (by simp [nameB, h0])
    have hs := name_emp h0
    subst hs
    have HR := Lib.hid hr; clear hr h0
    go_enter Tryz.func84, Tryz.ntmps84
    go_wp2_with fail
    rw [← HW.out]
    go_region
    all_goals go_wp2_with fail
    all_goals go_ret
    all_goals exact ⟨by rw [HR.out]; rfl, hb0.drew⟩
  · have hE : s.toList.isEmpty = false := by
      rw [ByteArray.toList_eq]
      cases hl : s.data.toList with
      | nil => exfalso; apply h0; show s.data.size = 0; rw [← Array.length_toList, hl]; rfl
      | cons => rfl
    by_cases h1 : 12 < s.size
    · have hr := nameS_no (s := s) (by simp [nameB, h0]; omega)
      have HR := Lib.hid hr; clear hr
      have h1i : (12 : Int) < s.size := by omega
      go_enter Tryz.func84, Tryz.ntmps84
      go_wp2_with fail
      rw [← HW.out]
      go_region
      all_goals go_wp2_with fail
      all_goals go_ret
      all_goals exact ⟨by rw [HR.out]; rfl, hb0.drew⟩
    · have h1i : decide ((12 : Int) < s.size) = false := by simp; omega
      have hs0 : (0 : Int) < s.size := by omega
      cases hl : letterB ((s.data[0]?.getD 0).toNat : Nat)
      · have hr := nameS_no (s := s) (by simp [nameB, hl])
        have HR := Lib.hid hr; clear hr
        have HL := Lib.hid (name_first hl); clear hl
        go_enter Tryz.func84, Tryz.ntmps84
        go_wp2_with fail
        rw [← HW.out]
        first | go_region_with (first
          | (go_at_call 143; refine (text_Name1 _ _).mono ?_; rintro e w1 ⟨rfl, rfl⟩; rw [HL.out (by assumption)])) | fail
        all_goals go_wp2_with fail
        all_goals go_ret
        all_goals exact ⟨by rw [HR.out]; rfl, hb0.drew⟩
      · have hp : PredGrows Tryz.prog 146 #[.pointer (some ⟨w.heap.size + 1, 0, none⟩)] (fun r => !mayB (r : Nat)) wn.drew := by
          intro W x hx hB
          refine (text_Name3 x w.heap.size (w.heap.size + 1) W ((hB.cell (p := ⟨w.heap.size, 0, none⟩) (cell_lt (w := wn.drew) q1)).trans q1) ((hB.cell (p := ⟨w.heap.size + 1, 0, none⟩) (cell_lt (w := wn.drew) q2)).trans q2)).mono ?_
          rintro e w' ⟨rfl, rfl⟩
          exact ⟨rfl, Below.refl _ _⟩
        have hc := Tryz.strings_ContainsFunc_grows 146 #[.pointer (some ⟨w.heap.size + 1, 0, none⟩)] (enters_of Tryz.func146 (by kernel_rfl) rfl) (fun r => !mayB (r : Nat)) s wn.drew hp
        have HC := Lib.hid (show Calls Tryz.prog 145 #[.string s, .func (.func 146) #[] #[.pointer (some ⟨w.heap.size + 1, 0, none⟩)]] wn.drew fun e w' => e = .returned (.bool (nameF s)) ∧ Below wn.drew.heap.size wn.drew w' from hc); clear hc hp
        have hr : nameS s = if nameF s then 31 else 0 := by
          cases hf : nameF s <;> simp [nameS, nameB, h0, hl, hf] <;> omega
        have HR := Lib.hid hr; clear hr
        have HL := Lib.hid (name_first hl); clear hl
        go_enter Tryz.func84, Tryz.ntmps84
        go_wp2_with fail
        rw [← HW.out]
        go_region_held3 (fun w' => w'.cell? ⟨w.heap.size, 0, none⟩ = some (.func (.func 143) #[] #[])) (first | exact q1 | assumption) (first
          | (go_at_call 143; refine (text_Name1 _ _).mono ?_; rintro e w1 ⟨rfl, rfl⟩; rw [HL.out (by assumption)])
          | (go_at_call 145; refine HC.out.mono ?_; rintro e w1 ⟨rfl, hb1⟩; have q3 : w1.cell? ⟨w.heap.size, 0, none⟩ = some (.func (.func 143) #[] #[]) := (hb1.cell (p := ⟨w.heap.size, 0, none⟩) (cell_lt (w := wn.drew) q1)).trans q1))
        all_goals go_wp2_with fail
        all_goals go_ret
        all_goals
          have hb2 : Below w.heap.size w w1 := hb0.drew.trans (hb1.mono hb0.size)
          refine ⟨?_, hb2⟩
          rw [HR.out]
          simp [*]
end Go.Proofs.YteblahoijolegaaGreatDoor
end
