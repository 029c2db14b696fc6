import Derived.Test.YteblahoijolegaaGreatDoorM13
import Derived.BigQuiet
import Derived.BigRegion
import Derived.ChangeAlike
import Derived.Deep.DeepCutAuto
import Derived.Deep.Light
import Derived.Deep.LoopGhost
import Derived.Deep.MidRow
import Derived.Deep.QuietTactic
import Derived.Deep.RegionHeld3
import Derived.Deep.WholeRow
import Derived.Defers
import Derived.Great.Walk
import Derived.Laws.BitsAllLaws
import Derived.Laws.CopyOwn
import Derived.Laws.EntriesVeiled
import Derived.Laws.LoneSync
import Derived.Laws.Pointers
import Derived.Laws.StructEq
import Derived.Lib.Hide
import Derived.Lib.LazyBuf
import Derived.Lib.SliceRun
import Derived.LoopIn
import Derived.LoopNIn
import Derived.Maps.AppendAt
import Derived.OwnWalkIn
import Derived.RangeFuncBox
import Derived.RangeFuncKeeps
import Derived.RangeFuncLeaves
import Derived.RangeFuncSeq
import Derived.RegionCalls
import Derived.RegionIn
import Derived.RegionTactic
import Derived.Shelf.Abstract
import Derived.TacticsInMore
import Derived.Test.YteblahoijolegaaGreatDoorShelf
import Derived.WalkKit
import Derived.WalkLawsBesides
import Derived.WalkSpells
import Derived.WideLaws
import Derived.Test.YteblahoijolegaaGreatDoorM08
section
set_option linter.all false
namespace Go.Proofs.YteblahoijolegaaGreatDoor
open Go.RowKit

def allF (f : Nat → Int) : Nat → Nat → Int
  | 0, _ => 0
  | r + 1, i => if f i = 0 then allF f r (i + 1) else f i
/-- the first error of a list -/
def allE (f : Nat → Int) (n : Nat) : Int := allF f n 0
theorem run_storeA (w : World) (a : Addr) (v : Value) (hv : v.oneCell' = true) : (store a v).run Tryz.prog w = stored Tryz.prog w a v .plain := run_store Tryz.prog w a v .plain hv
theorem pre_step {f : Nat → Int} {i : Nat} (h : ∀ k, k < i → f k = 0) (e : f i = 0) : ∀ k, k < i + 1 → f k = 0 := fun k hk => by
  rcases Nat.lt_succ_iff_lt_or_eq.1 hk with h1 | h1
  · exact h k h1
  · rw [h1]; exact e
set_option maxHeartbeats 1000000 in
theorem all_source (ao : Option Addr) (n cp : Nat) (hn : n ≤ 100000) (c : Nat → Nat → Value) (f : Nat → Int) (g bj : Nat) (eg : ∀ args w, (callFunc g args).run Tryz.prog w = .ok (.enter g args) w) (w : World)
    (hs : SlAt w ao n 3 c) (hone : ∀ i, i < n → ∀ j, j < 3 → (c i j).oneCell' = true) (hck : ∀ i : Nat, i < n → (∀ k, k < i → f k = 0) → ∀ W, Below w.heap.size w W → Calls Tryz.prog g #[.pointer (some ⟨bj, 0, none⟩), .int .i64 i, .agg #[c i 0, c i 1, c i 2]] W fun e W' => e = .returned (.int .i64 (f i)) ∧ Below W.heap.size W W') :
    Calls Tryz.prog 42 #[.slice ao n cp, .func (.func g) #[.pointer (some ⟨bj, 0, none⟩)] #[]] w fun e w' => e = .returned (.int .i64 (allE f n)) ∧ Below w.heap.size w w' := by
  have HC := Lib.hid hck; clear hck
  go_enter Tryz.func42, Tryz.ntmps42
  go_wp2_with fail
  go_loopg [10] n (fun r s10 wr => ∃ i : Nat, i ≤ n ∧ r = n - i ∧ s10 = .int .i64 i ∧ allF f r i = allE f n ∧ (∀ k, k < i → f k = 0) ∧ Below w.heap.size w wr)
  case atStart => exact ⟨0, by omega, rfl, rfl, rfl, fun k hk => absurd hk (Nat.not_lt_zero k), Below.refl _ _⟩
  case round =>
    obtain ⟨i, hi, rfl, rfl, he, hpre, hb⟩ := hrel
    have HP := Lib.hid hpre; clear hpre
    by_cases hlt : i < n
    · rcases hs.below hb with h0 | ⟨a, off, rfl, hcs⟩
      · omega
      obtain ⟨r, hr⟩ : ∃ r, n - i = r + 1 := ⟨n - i - 1, by omega⟩
      rw [hr, allF] at he
      have HE := Lib.hid he; clear he
      have HR := Lib.hid hr; clear hr
      have hlt2 : (i : Int) < n := by omega
      have d0 := hcs i hlt 0 (by omega); have d1 := hcs i hlt 1 (by omega); have d2 := hcs i hlt 2 (by omega); simp only [Nat.add_zero] at d0; have s0 := fun (a : Addr) (w : World) => run_storeA w a (c i 0) (hone i hlt 0 (by omega)); have s1 := fun (a : Addr) (w : World) => run_storeA w a (c i 1) (hone i hlt 1 (by omega)); have s2 := fun (a : Addr) (w : World) => run_storeA w a (c i 2) (hone i hlt 2 (by omega))
      clear hcs
      obtain ⟨w0, hw0⟩ : ∃ w0 : World, w0 = wr.alloc (.cells #[c i 0, c i 1, c i 2] 96) := ⟨_, rfl⟩
      have hb0 : Below wr.heap.size wr w0 := by rw [hw0]; (repeat first | exact Below.refl _ _ | assumption | refine Below.alloc ?_ (by simp; try omega) _ | refine Below.drew ?_ | refine Below.drewN ?_ _ | refine Below.setCell ?_ (by simp; try omega) _ | refine Below.trans ?_ (Below.mono (by assumption) (by simp; try omega)))
      have hb1 := hb.trans (hb0.mono hb.size)
      have HK := Lib.hid (HC.out i hlt HP.out w0 hb1)
      have HW := Lib.hid hw0; clear hw0
      rcases Bool.eq_false_or_eq_true (f i == 0) with ef | ef
      · have E1 := Lib.hid (by simpa using ef : f i = 0); clear ef
        go_wp2_with fail
        rw [← HW.out]
        refine HK.out.mono ?_
        rintro e W1 ⟨rfl, hb2⟩
        rw [E1.out]
        have hb3 := hb1.trans (hb2.mono hb1.size)
        go_wp2_with fail
        go_roundg r
        case measure => have := HR.out; omega
        case rel => exact ⟨i + 1, by omega, by have := HR.out; omega, by go_num, by have := HE.out; rwa [if_pos E1.out] at this, pre_step HP.out E1.out, hb3⟩
      · have ef2 := ef
        have E1 := Lib.hid (by simpa using ef2 : ¬ f i = 0); clear ef2
        have E2 := Lib.hid (by have := HE.out; rwa [if_neg E1.out] at this : f i = allE f n)
        generalize f i = fi at HK E2 ef
        clear HE E1
        go_wp2_with fail
        rw [← HW.out]
        refine HK.out.mono ?_
        rintro e W1 ⟨rfl, hb2⟩
        have hb3 := hb1.trans (hb2.mono hb1.size)
        go_wp2_with fail
        go_ret
        exact ⟨by rw [← E2.out]; rfl, hb3⟩
    · obtain rfl : i = n := by omega
      have hlt2 : ¬ (i : Int) < i := by omega
      go_wp2_with fail
      go_ret
      rw [Nat.sub_self] at he
      exact ⟨by rw [← he]; rfl, hb⟩
set_option maxHeartbeats 1000000 in
theorem all_dest (ao : Option Addr) (n cp : Nat) (hn : n ≤ 100000) (c : Nat → Nat → Value) (f : Nat → Int) (g bj : Nat) (eg : ∀ args w, (callFunc g args).run Tryz.prog w = .ok (.enter g args) w) (w : World)
    (hs : SlAt w ao n 2 c) (hone : ∀ i, i < n → ∀ j, j < 2 → (c i j).oneCell' = true) (hck : ∀ i : Nat, i < n → (∀ k, k < i → f k = 0) → ∀ W, Below w.heap.size w W → Calls Tryz.prog g #[.pointer (some ⟨bj, 0, none⟩), .int .i64 i, .agg #[c i 0, c i 1]] W fun e W' => e = .returned (.int .i64 (f i)) ∧ Below W.heap.size W W') :
    Calls Tryz.prog 45 #[.slice ao n cp, .func (.func g) #[.pointer (some ⟨bj, 0, none⟩)] #[]] w fun e w' => e = .returned (.int .i64 (allE f n)) ∧ Below w.heap.size w w' := by
  have HC := Lib.hid hck; clear hck
  go_enter Tryz.func45, Tryz.ntmps45
  go_wp2_with fail
  go_loopg [10] n (fun r s10 wr => ∃ i : Nat, i ≤ n ∧ r = n - i ∧ s10 = .int .i64 i ∧ allF f r i = allE f n ∧ (∀ k, k < i → f k = 0) ∧ Below w.heap.size w wr)
  case atStart => exact ⟨0, by omega, rfl, rfl, rfl, fun k hk => absurd hk (Nat.not_lt_zero k), Below.refl _ _⟩
  case round =>
    obtain ⟨i, hi, rfl, rfl, he, hpre, hb⟩ := hrel
    have HP := Lib.hid hpre; clear hpre
    by_cases hlt : i < n
    · rcases hs.below hb with h0 | ⟨a, off, rfl, hcs⟩
      · omega
      obtain ⟨r, hr⟩ : ∃ r, n - i = r + 1 := ⟨n - i - 1, by omega⟩
      rw [hr, allF] at he
      have HE := Lib.hid he; clear he
      have HR := Lib.hid hr; clear hr
      have hlt2 : (i : Int) < n := by omega
      have d0 := hcs i hlt 0 (by omega); have d1 := hcs i hlt 1 (by omega); simp only [Nat.add_zero] at d0; have s0 := fun (a : Addr) (w : World) => run_storeA w a (c i 0) (hone i hlt 0 (by omega)); have s1 := fun (a : Addr) (w : World) => run_storeA w a (c i 1) (hone i hlt 1 (by omega))
      clear hcs
      obtain ⟨w0, hw0⟩ : ∃ w0 : World, w0 = wr.alloc (.cells #[c i 0, c i 1] 100) := ⟨_, rfl⟩
      have hb0 : Below wr.heap.size wr w0 := by rw [hw0]; (repeat first | exact Below.refl _ _ | assumption | refine Below.alloc ?_ (by simp; try omega) _ | refine Below.drew ?_ | refine Below.drewN ?_ _ | refine Below.setCell ?_ (by simp; try omega) _ | refine Below.trans ?_ (Below.mono (by assumption) (by simp; try omega)))
      have hb1 := hb.trans (hb0.mono hb.size)
      have HK := Lib.hid (HC.out i hlt HP.out w0 hb1)
      have HW := Lib.hid hw0; clear hw0
      rcases Bool.eq_false_or_eq_true (f i == 0) with ef | ef
      · have E1 := Lib.hid (by simpa using ef : f i = 0); clear ef
        go_wp2_with fail
        rw [← HW.out]
        refine HK.out.mono ?_
        rintro e W1 ⟨rfl, hb2⟩
        rw [E1.out]
        have hb3 := hb1.trans (hb2.mono hb1.size)
        go_wp2_with fail
        go_roundg r
        case measure => have := HR.out; omega
        case rel => exact ⟨i + 1, by omega, by have := HR.out; omega, by go_num, by have := HE.out; rwa [if_pos E1.out] at this, pre_step HP.out E1.out, hb3⟩
      · have ef2 := ef
        have E1 := Lib.hid (by simpa using ef2 : ¬ f i = 0); clear ef2
        have E2 := Lib.hid (by have := HE.out; rwa [if_neg E1.out] at this : f i = allE f n)
        generalize f i = fi at HK E2 ef
        clear HE E1
        go_wp2_with fail
        rw [← HW.out]
        refine HK.out.mono ?_
        rintro e W1 ⟨rfl, hb2⟩
        have hb3 := hb1.trans (hb2.mono hb1.size)
        go_wp2_with fail
        go_ret
        exact ⟨by rw [← E2.out]; rfl, hb3⟩
    · obtain rfl : i = n := by omega
      have hlt2 : ¬ (i : Int) < i := by omega
      go_wp2_with fail
      go_ret
      rw [Nat.sub_self] at he
      exact ⟨by rw [← he]; rfl, hb⟩
set_option maxHeartbeats 1000000 in
theorem all_work (ao : Option Addr) (n cp : Nat) (hn : n ≤ 100000) (c : Nat → Nat → Value) (f : Nat → Int) (g bj : Nat) (eg : ∀ args w, (callFunc g args).run Tryz.prog w = .ok (.enter g args) w) (w : World)
    (hs : SlAt w ao n 3 c) (hone : ∀ i, i < n → ∀ j, j < 3 → (c i j).oneCell' = true) (hck : ∀ i : Nat, i < n → (∀ k, k < i → f k = 0) → ∀ W, Below w.heap.size w W → Calls Tryz.prog g #[.pointer (some ⟨bj, 0, none⟩), .int .i64 i, .agg #[c i 0, c i 1, c i 2]] W fun e W' => e = .returned (.int .i64 (f i)) ∧ Below W.heap.size W W') :
    Calls Tryz.prog 48 #[.slice ao n cp, .func (.func g) #[.pointer (some ⟨bj, 0, none⟩)] #[]] w fun e w' => e = .returned (.int .i64 (allE f n)) ∧ Below w.heap.size w w' := by
  have HC := Lib.hid hck; clear hck
  go_enter Tryz.func48, Tryz.ntmps48
  go_wp2_with fail
  go_loopg [10] n (fun r s10 wr => ∃ i : Nat, i ≤ n ∧ r = n - i ∧ s10 = .int .i64 i ∧ allF f r i = allE f n ∧ (∀ k, k < i → f k = 0) ∧ Below w.heap.size w wr)
  case atStart => exact ⟨0, by omega, rfl, rfl, rfl, fun k hk => absurd hk (Nat.not_lt_zero k), Below.refl _ _⟩
  case round =>
    obtain ⟨i, hi, rfl, rfl, he, hpre, hb⟩ := hrel
    have HP := Lib.hid hpre; clear hpre
    by_cases hlt : i < n
    · rcases hs.below hb with h0 | ⟨a, off, rfl, hcs⟩
      · omega
      obtain ⟨r, hr⟩ : ∃ r, n - i = r + 1 := ⟨n - i - 1, by omega⟩
      rw [hr, allF] at he
      have HE := Lib.hid he; clear he
      have HR := Lib.hid hr; clear hr
      have hlt2 : (i : Int) < n := by omega
      have d0 := hcs i hlt 0 (by omega); have d1 := hcs i hlt 1 (by omega); have d2 := hcs i hlt 2 (by omega); simp only [Nat.add_zero] at d0; have s0 := fun (a : Addr) (w : World) => run_storeA w a (c i 0) (hone i hlt 0 (by omega)); have s1 := fun (a : Addr) (w : World) => run_storeA w a (c i 1) (hone i hlt 1 (by omega)); have s2 := fun (a : Addr) (w : World) => run_storeA w a (c i 2) (hone i hlt 2 (by omega))
      clear hcs
      obtain ⟨w0, hw0⟩ : ∃ w0 : World, w0 = wr.alloc (.cells #[c i 0, c i 1, c i 2] 62) := ⟨_, rfl⟩
      have hb0 : Below wr.heap.size wr w0 := by rw [hw0]; (repeat first | exact Below.refl _ _ | assumption | refine Below.alloc ?_ (by simp; try omega) _ | refine Below.drew ?_ | refine Below.drewN ?_ _ | refine Below.setCell ?_ (by simp; try omega) _ | refine Below.trans ?_ (Below.mono (by assumption) (by simp; try omega)))
      have hb1 := hb.trans (hb0.mono hb.size)
      have HK := Lib.hid (HC.out i hlt HP.out w0 hb1)
      have HW := Lib.hid hw0; clear hw0
      rcases Bool.eq_false_or_eq_true (f i == 0) with ef | ef
      · have E1 := Lib.hid (by simpa using ef : f i = 0); clear ef
        go_wp2_with fail
        rw [← HW.out]
        refine HK.out.mono ?_
        rintro e W1 ⟨rfl, hb2⟩
        rw [E1.out]
        have hb3 := hb1.trans (hb2.mono hb1.size)
        go_wp2_with fail
        go_roundg r
        case measure => have := HR.out; omega
        case rel => exact ⟨i + 1, by omega, by have := HR.out; omega, by go_num, by have := HE.out; rwa [if_pos E1.out] at this, pre_step HP.out E1.out, hb3⟩
      · have ef2 := ef
        have E1 := Lib.hid (by simpa using ef2 : ¬ f i = 0); clear ef2
        have E2 := Lib.hid (by have := HE.out; rwa [if_neg E1.out] at this : f i = allE f n)
        generalize f i = fi at HK E2 ef
        clear HE E1
        go_wp2_with fail
        rw [← HW.out]
        refine HK.out.mono ?_
        rintro e W1 ⟨rfl, hb2⟩
        have hb3 := hb1.trans (hb2.mono hb1.size)
        go_wp2_with fail
        go_ret
        exact ⟨by rw [← E2.out]; rfl, hb3⟩
    · obtain rfl : i = n := by omega
      have hlt2 : ¬ (i : Int) < i := by omega
      go_wp2_with fail
      go_ret
      rw [Nat.sub_self] at he
      exact ⟨by rw [← he]; rfl, hb⟩
set_option maxHeartbeats 1000000 in
theorem all_route (ao : Option Addr) (n cp : Nat) (hn : n ≤ 100000) (c : Nat → Nat → Value) (f : Nat → Int) (g bj : Nat) (eg : ∀ args w, (callFunc g args).run Tryz.prog w = .ok (.enter g args) w) (w : World)
    (hs : SlAt w ao n 4 c) (hone : ∀ i, i < n → ∀ j, j < 4 → (c i j).oneCell' = true) (hck : ∀ i : Nat, i < n → (∀ k, k < i → f k = 0) → ∀ W, Below w.heap.size w W → Calls Tryz.prog g #[.pointer (some ⟨bj, 0, none⟩), .int .i64 i, .agg #[c i 0, c i 1, c i 2, c i 3]] W fun e W' => e = .returned (.int .i64 (f i)) ∧ Below W.heap.size W W') :
    Calls Tryz.prog 51 #[.slice ao n cp, .func (.func g) #[.pointer (some ⟨bj, 0, none⟩)] #[]] w fun e w' => e = .returned (.int .i64 (allE f n)) ∧ Below w.heap.size w w' := by
  have HC := Lib.hid hck; clear hck
  go_enter Tryz.func51, Tryz.ntmps51
  go_wp2_with fail
  go_loopg [10] n (fun r s10 wr => ∃ i : Nat, i ≤ n ∧ r = n - i ∧ s10 = .int .i64 i ∧ allF f r i = allE f n ∧ (∀ k, k < i → f k = 0) ∧ Below w.heap.size w wr)
  case atStart => exact ⟨0, by omega, rfl, rfl, rfl, fun k hk => absurd hk (Nat.not_lt_zero k), Below.refl _ _⟩
  case round =>
    obtain ⟨i, hi, rfl, rfl, he, hpre, hb⟩ := hrel
    have HP := Lib.hid hpre; clear hpre
    by_cases hlt : i < n
    · rcases hs.below hb with h0 | ⟨a, off, rfl, hcs⟩
      · omega
      obtain ⟨r, hr⟩ : ∃ r, n - i = r + 1 := ⟨n - i - 1, by omega⟩
      rw [hr, allF] at he
      have HE := Lib.hid he; clear he
      have HR := Lib.hid hr; clear hr
      have hlt2 : (i : Int) < n := by omega
      have d0 := hcs i hlt 0 (by omega); have d1 := hcs i hlt 1 (by omega); have d2 := hcs i hlt 2 (by omega); have d3 := hcs i hlt 3 (by omega); simp only [Nat.add_zero] at d0; have s0 := fun (a : Addr) (w : World) => run_storeA w a (c i 0) (hone i hlt 0 (by omega)); have s1 := fun (a : Addr) (w : World) => run_storeA w a (c i 1) (hone i hlt 1 (by omega)); have s2 := fun (a : Addr) (w : World) => run_storeA w a (c i 2) (hone i hlt 2 (by omega)); have s3 := fun (a : Addr) (w : World) => run_storeA w a (c i 3) (hone i hlt 3 (by omega))
      clear hcs
      obtain ⟨w0, hw0⟩ : ∃ w0 : World, w0 = wr.alloc (.cells #[c i 0, c i 1, c i 2, c i 3] 130) := ⟨_, rfl⟩
      have hb0 : Below wr.heap.size wr w0 := by rw [hw0]; (repeat first | exact Below.refl _ _ | assumption | refine Below.alloc ?_ (by simp; try omega) _ | refine Below.drew ?_ | refine Below.drewN ?_ _ | refine Below.setCell ?_ (by simp; try omega) _ | refine Below.trans ?_ (Below.mono (by assumption) (by simp; try omega)))
      have hb1 := hb.trans (hb0.mono hb.size)
      have HK := Lib.hid (HC.out i hlt HP.out w0 hb1)
      have HW := Lib.hid hw0; clear hw0
      rcases Bool.eq_false_or_eq_true (f i == 0) with ef | ef
      · have E1 := Lib.hid (by simpa using ef : f i = 0); clear ef
        go_wp2_with fail
        rw [← HW.out]
        refine HK.out.mono ?_
        rintro e W1 ⟨rfl, hb2⟩
        rw [E1.out]
        have hb3 := hb1.trans (hb2.mono hb1.size)
        go_wp2_with fail
        go_roundg r
        case measure => have := HR.out; omega
        case rel => exact ⟨i + 1, by omega, by have := HR.out; omega, by go_num, by have := HE.out; rwa [if_pos E1.out] at this, pre_step HP.out E1.out, hb3⟩
      · have ef2 := ef
        have E1 := Lib.hid (by simpa using ef2 : ¬ f i = 0); clear ef2
        have E2 := Lib.hid (by have := HE.out; rwa [if_neg E1.out] at this : f i = allE f n)
        generalize f i = fi at HK E2 ef
        clear HE E1
        go_wp2_with fail
        rw [← HW.out]
        refine HK.out.mono ?_
        rintro e W1 ⟨rfl, hb2⟩
        have hb3 := hb1.trans (hb2.mono hb1.size)
        go_wp2_with fail
        go_ret
        exact ⟨by rw [← E2.out]; rfl, hb3⟩
    · obtain rfl : i = n := by omega
      have hlt2 : ¬ (i : Int) < i := by omega
      go_wp2_with fail
      go_ret
      rw [Nat.sub_self] at he
      exact ⟨by rw [← he]; rfl, hb⟩
set_option maxHeartbeats 1000000 in
theorem all_pair (ao : Option Addr) (n cp : Nat) (hn : n ≤ 100000) (c : Nat → Nat → Value) (f : Nat → Int) (g bj : Nat) (eg : ∀ args w, (callFunc g args).run Tryz.prog w = .ok (.enter g args) w) (w : World)
    (hs : SlAt w ao n 2 c) (hone : ∀ i, i < n → ∀ j, j < 2 → (c i j).oneCell' = true) (hck : ∀ i : Nat, i < n → (∀ k, k < i → f k = 0) → ∀ W, Below w.heap.size w W → Calls Tryz.prog g #[.pointer (some ⟨bj, 0, none⟩), .int .i64 i, .agg #[c i 0, c i 1]] W fun e W' => e = .returned (.int .i64 (f i)) ∧ Below W.heap.size W W') :
    Calls Tryz.prog 54 #[.slice ao n cp, .func (.func g) #[.pointer (some ⟨bj, 0, none⟩)] #[]] w fun e w' => e = .returned (.int .i64 (allE f n)) ∧ Below w.heap.size w w' := by
  have HC := Lib.hid hck; clear hck
  go_enter Tryz.func54, Tryz.ntmps54
  go_wp2_with fail
  go_loopg [10] n (fun r s10 wr => ∃ i : Nat, i ≤ n ∧ r = n - i ∧ s10 = .int .i64 i ∧ allF f r i = allE f n ∧ (∀ k, k < i → f k = 0) ∧ Below w.heap.size w wr)
  case atStart => exact ⟨0, by omega, rfl, rfl, rfl, fun k hk => absurd hk (Nat.not_lt_zero k), Below.refl _ _⟩
  case round =>
    obtain ⟨i, hi, rfl, rfl, he, hpre, hb⟩ := hrel
    have HP := Lib.hid hpre; clear hpre
    by_cases hlt : i < n
    · rcases hs.below hb with h0 | ⟨a, off, rfl, hcs⟩
      · omega
      obtain ⟨r, hr⟩ : ∃ r, n - i = r + 1 := ⟨n - i - 1, by omega⟩
      rw [hr, allF] at he
      have HE := Lib.hid he; clear he
      have HR := Lib.hid hr; clear hr
      have hlt2 : (i : Int) < n := by omega
      have d0 := hcs i hlt 0 (by omega); have d1 := hcs i hlt 1 (by omega); simp only [Nat.add_zero] at d0; have s0 := fun (a : Addr) (w : World) => run_storeA w a (c i 0) (hone i hlt 0 (by omega)); have s1 := fun (a : Addr) (w : World) => run_storeA w a (c i 1) (hone i hlt 1 (by omega))
      clear hcs
      obtain ⟨w0, hw0⟩ : ∃ w0 : World, w0 = wr.alloc (.cells #[c i 0, c i 1] 60) := ⟨_, rfl⟩
      have hb0 : Below wr.heap.size wr w0 := by rw [hw0]; (repeat first | exact Below.refl _ _ | assumption | refine Below.alloc ?_ (by simp; try omega) _ | refine Below.drew ?_ | refine Below.drewN ?_ _ | refine Below.setCell ?_ (by simp; try omega) _ | refine Below.trans ?_ (Below.mono (by assumption) (by simp; try omega)))
      have hb1 := hb.trans (hb0.mono hb.size)
      have HK := Lib.hid (HC.out i hlt HP.out w0 hb1)
      have HW := Lib.hid hw0; clear hw0
      rcases Bool.eq_false_or_eq_true (f i == 0) with ef | ef
      · have E1 := Lib.hid (by simpa using ef : f i = 0); clear ef
        go_wp2_with fail
        rw [← HW.out]
        refine HK.out.mono ?_
        rintro e W1 ⟨rfl, hb2⟩
        rw [E1.out]
        have hb3 := hb1.trans (hb2.mono hb1.size)
        go_wp2_with fail
        go_roundg r
        case measure => have := HR.out; omega
        case rel => exact ⟨i + 1, by omega, by have := HR.out; omega, by go_num, by have := HE.out; rwa [if_pos E1.out] at this, pre_step HP.out E1.out, hb3⟩
      · have ef2 := ef
        have E1 := Lib.hid (by simpa using ef2 : ¬ f i = 0); clear ef2
        have E2 := Lib.hid (by have := HE.out; rwa [if_neg E1.out] at this : f i = allE f n)
        generalize f i = fi at HK E2 ef
        clear HE E1
        go_wp2_with fail
        rw [← HW.out]
        refine HK.out.mono ?_
        rintro e W1 ⟨rfl, hb2⟩
        have hb3 := hb1.trans (hb2.mono hb1.size)
        go_wp2_with fail
        go_ret
        exact ⟨by rw [← E2.out]; rfl, hb3⟩
    · obtain rfl : i = n := by omega
      have hlt2 : ¬ (i : Int) < i := by omega
      go_wp2_with fail
      go_ret
      rw [Nat.sub_self] at he
      exact ⟨by rw [← he]; rfl, hb⟩
set_option maxHeartbeats 1000000 in
theorem all_grant (ao : Option Addr) (n cp : Nat) (hn : n ≤ 100000) (c : Nat → Nat → Value) (f : Nat → Int) (g bj : Nat) (eg : ∀ args w, (callFunc g args).run Tryz.prog w = .ok (.enter g args) w) (w : World)
    (hs : SlAt w ao n 5 c) (hone : ∀ i, i < n → ∀ j, j < 5 → (c i j).oneCell' = true) (hck : ∀ i : Nat, i < n → (∀ k, k < i → f k = 0) → ∀ W, Below w.heap.size w W → Calls Tryz.prog g #[.pointer (some ⟨bj, 0, none⟩), .int .i64 i, .agg #[c i 0, c i 1, c i 2, c i 3, c i 4]] W fun e W' => e = .returned (.int .i64 (f i)) ∧ Below W.heap.size W W') :
    Calls Tryz.prog 57 #[.slice ao n cp, .func (.func g) #[.pointer (some ⟨bj, 0, none⟩)] #[]] w fun e w' => e = .returned (.int .i64 (allE f n)) ∧ Below w.heap.size w w' := by
  have HC := Lib.hid hck; clear hck
  go_enter Tryz.func57, Tryz.ntmps57
  go_wp2_with fail
  go_loopg [10] n (fun r s10 wr => ∃ i : Nat, i ≤ n ∧ r = n - i ∧ s10 = .int .i64 i ∧ allF f r i = allE f n ∧ (∀ k, k < i → f k = 0) ∧ Below w.heap.size w wr)
  case atStart => exact ⟨0, by omega, rfl, rfl, rfl, fun k hk => absurd hk (Nat.not_lt_zero k), Below.refl _ _⟩
  case round =>
    obtain ⟨i, hi, rfl, rfl, he, hpre, hb⟩ := hrel
    have HP := Lib.hid hpre; clear hpre
    by_cases hlt : i < n
    · rcases hs.below hb with h0 | ⟨a, off, rfl, hcs⟩
      · omega
      obtain ⟨r, hr⟩ : ∃ r, n - i = r + 1 := ⟨n - i - 1, by omega⟩
      rw [hr, allF] at he
      have HE := Lib.hid he; clear he
      have HR := Lib.hid hr; clear hr
      have hlt2 : (i : Int) < n := by omega
      have d0 := hcs i hlt 0 (by omega); have d1 := hcs i hlt 1 (by omega); have d2 := hcs i hlt 2 (by omega); have d3 := hcs i hlt 3 (by omega); have d4 := hcs i hlt 4 (by omega); simp only [Nat.add_zero] at d0; have s0 := fun (a : Addr) (w : World) => run_storeA w a (c i 0) (hone i hlt 0 (by omega)); have s1 := fun (a : Addr) (w : World) => run_storeA w a (c i 1) (hone i hlt 1 (by omega)); have s2 := fun (a : Addr) (w : World) => run_storeA w a (c i 2) (hone i hlt 2 (by omega)); have s3 := fun (a : Addr) (w : World) => run_storeA w a (c i 3) (hone i hlt 3 (by omega)); have s4 := fun (a : Addr) (w : World) => run_storeA w a (c i 4) (hone i hlt 4 (by omega))
      clear hcs
      obtain ⟨w0, hw0⟩ : ∃ w0 : World, w0 = wr.alloc (.cells #[c i 0, c i 1, c i 2, c i 3, c i 4] 53) := ⟨_, rfl⟩
      have hb0 : Below wr.heap.size wr w0 := by rw [hw0]; (repeat first | exact Below.refl _ _ | assumption | refine Below.alloc ?_ (by simp; try omega) _ | refine Below.drew ?_ | refine Below.drewN ?_ _ | refine Below.setCell ?_ (by simp; try omega) _ | refine Below.trans ?_ (Below.mono (by assumption) (by simp; try omega)))
      have hb1 := hb.trans (hb0.mono hb.size)
      have HK := Lib.hid (HC.out i hlt HP.out w0 hb1)
      have HW := Lib.hid hw0; clear hw0
      rcases Bool.eq_false_or_eq_true (f i == 0) with ef | ef
      · have E1 := Lib.hid (by simpa using ef : f i = 0); clear ef
        go_wp2_with fail
        rw [← HW.out]
        refine HK.out.mono ?_
        rintro e W1 ⟨rfl, hb2⟩
        rw [E1.out]
        have hb3 := hb1.trans (hb2.mono hb1.size)
        go_wp2_with fail
        go_roundg r
        case measure => have := HR.out; omega
        case rel => exact ⟨i + 1, by omega, by have := HR.out; omega, by go_num, by have := HE.out; rwa [if_pos E1.out] at this, pre_step HP.out E1.out, hb3⟩
      · have ef2 := ef
        have E1 := Lib.hid (by simpa using ef2 : ¬ f i = 0); clear ef2
        have E2 := Lib.hid (by have := HE.out; rwa [if_neg E1.out] at this : f i = allE f n)
        generalize f i = fi at HK E2 ef
        clear HE E1
        go_wp2_with fail
        rw [← HW.out]
        refine HK.out.mono ?_
        rintro e W1 ⟨rfl, hb2⟩
        have hb3 := hb1.trans (hb2.mono hb1.size)
        go_wp2_with fail
        go_ret
        exact ⟨by rw [← E2.out]; rfl, hb3⟩
    · obtain rfl : i = n := by omega
      have hlt2 : ¬ (i : Int) < i := by omega
      go_wp2_with fail
      go_ret
      rw [Nat.sub_self] at he
      exact ⟨by rw [← he]; rfl, hb⟩
set_option maxHeartbeats 1000000 in
theorem all_string (ao : Option Addr) (n cp : Nat) (hn : n ≤ 100000) (c : Nat → Nat → Value) (f : Nat → Int) (g bj : Nat) (eg : ∀ args w, (callFunc g args).run Tryz.prog w = .ok (.enter g args) w) (w : World)
    (hs : SlAt w ao n 1 c) (hone : True) (hck : ∀ i : Nat, i < n → (∀ k, k < i → f k = 0) → ∀ W, Below w.heap.size w W → Calls Tryz.prog g #[.pointer (some ⟨bj, 0, none⟩), .int .i64 i, c i 0] W fun e W' => e = .returned (.int .i64 (f i)) ∧ Below W.heap.size W W') :
    Calls Tryz.prog 60 #[.slice ao n cp, .func (.func g) #[.pointer (some ⟨bj, 0, none⟩)] #[]] w fun e w' => e = .returned (.int .i64 (allE f n)) ∧ Below w.heap.size w w' := by
  have HC := Lib.hid hck; clear hck
  go_enter Tryz.func60, Tryz.ntmps60
  go_wp2_with fail
  go_loopg [10] n (fun r s10 wr => ∃ i : Nat, i ≤ n ∧ r = n - i ∧ s10 = .int .i64 i ∧ allF f r i = allE f n ∧ (∀ k, k < i → f k = 0) ∧ Below w.heap.size w wr)
  case atStart => exact ⟨0, by omega, rfl, rfl, rfl, fun k hk => absurd hk (Nat.not_lt_zero k), Below.refl _ _⟩
  case round =>
    obtain ⟨i, hi, rfl, rfl, he, hpre, hb⟩ := hrel
    have HP := Lib.hid hpre; clear hpre
    by_cases hlt : i < n
    · rcases hs.below hb with h0 | ⟨a, off, rfl, hcs⟩
      · omega
      obtain ⟨r, hr⟩ : ∃ r, n - i = r + 1 := ⟨n - i - 1, by omega⟩
      rw [hr, allF] at he
      have HE := Lib.hid he; clear he
      have HR := Lib.hid hr; clear hr
      have hlt2 : (i : Int) < n := by omega
      have d0 := hcs i hlt 0 (by omega); simp only [Nat.mul_one, Nat.add_zero] at d0
      clear hcs
      obtain ⟨w0, hw0⟩ : ∃ w0 : World, w0 = wr := ⟨_, rfl⟩
      have hb0 : Below wr.heap.size wr w0 := by rw [hw0]; (repeat first | exact Below.refl _ _ | assumption | refine Below.alloc ?_ (by simp; try omega) _ | refine Below.drew ?_ | refine Below.drewN ?_ _ | refine Below.setCell ?_ (by simp; try omega) _ | refine Below.trans ?_ (Below.mono (by assumption) (by simp; try omega)))
      have hb1 := hb.trans (hb0.mono hb.size)
      have HK := Lib.hid (HC.out i hlt HP.out w0 hb1)
      have HW := Lib.hid hw0; clear hw0
      rcases Bool.eq_false_or_eq_true (f i == 0) with ef | ef
      · have E1 := Lib.hid (by simpa using ef : f i = 0); clear ef
        go_wp2_with fail
        rw [← HW.out]
        refine HK.out.mono ?_
        rintro e W1 ⟨rfl, hb2⟩
        rw [E1.out]
        have hb3 := hb1.trans (hb2.mono hb1.size)
        go_wp2_with fail
        go_roundg r
        case measure => have := HR.out; omega
        case rel => exact ⟨i + 1, by omega, by have := HR.out; omega, by go_num, by have := HE.out; rwa [if_pos E1.out] at this, pre_step HP.out E1.out, hb3⟩
      · have ef2 := ef
        have E1 := Lib.hid (by simpa using ef2 : ¬ f i = 0); clear ef2
        have E2 := Lib.hid (by have := HE.out; rwa [if_neg E1.out] at this : f i = allE f n)
        generalize f i = fi at HK E2 ef
        clear HE E1
        go_wp2_with fail
        rw [← HW.out]
        refine HK.out.mono ?_
        rintro e W1 ⟨rfl, hb2⟩
        have hb3 := hb1.trans (hb2.mono hb1.size)
        go_wp2_with fail
        go_ret
        exact ⟨by rw [← E2.out]; rfl, hb3⟩
    · obtain rfl : i = n := by omega
      have hlt2 : ¬ (i : Int) < i := by omega
      go_wp2_with fail
      go_ret
      rw [Nat.sub_self] at he
      exact ⟨by rw [← he]; rfl, hb⟩
end Go.Proofs.YteblahoijolegaaGreatDoor
end
section
set_option linter.all false
namespace Go.Proofs.YteblahoijolegaaGreatDoor
open Go.RowKit

theorem Kept.cell {keep : Nat → Prop} {w w' : World} (h : Kept keep w w') {b o : Nat} {v : Value} (hc : w.cell? ⟨b, o, none⟩ = some v) (hk : keep b) : w'.cell? ⟨b, o, none⟩ = some v := by
  have := h.block b (cell_lt hc) hk
  simp only [World.cell?] at hc ⊢
  rw [this]; exact hc
theorem SlAt.keptK {keep : Nat → Prop} {w w' : World} {ao : Option Addr} {n k : Nat} {c : Nat → Nat → Value} (h : SlAt w ao n k c) (hb : Kept keep w w') (hk : 0 < n → ∀ a, ao = some a → keep a.block) : SlAt w' ao n k c := by
  rcases Nat.eq_zero_or_pos n with h0 | h0
  · exact .inl h0
  · rcases h with h | ⟨a, off, h1, h2⟩
    · exact .inl h
    · exact .inr ⟨a, off, h1, fun i hi j hj => hb.cell (h2 i hi j hj) (hk h0 _ h1)⟩
/-- the numbers from n down to m, m too -/
def bkL (n m : Nat) : List Nat := (List.range' m (n - m)).reverse
theorem bkL_top (n : Nat) : bkL n n = [] := by simp [bkL]
theorem bkL_step {n m : Nat} (h : m < n) : bkL n m = bkL n (m + 1) ++ [m] := by
  unfold bkL
  rw [show n - m = (n - (m + 1)) + 1 by omega, List.range'_succ, List.reverse_cons]
theorem bkL_pre {n m : Nat} (h : m ≤ n) : bkL n m <+: bkL n 0 := by
  unfold bkL
  refine ⟨(List.range' 0 m).reverse, ?_⟩
  rw [← List.reverse_append]
  congr 1
  have := List.range'_append_1 (s := 0) (m := m) (n := n - m)
  rw [Nat.zero_add, Nat.add_sub_cancel' h] at this
  simpa using this
theorem bkL_len (n m : Nat) : (bkL n m).length = n - m := by simp [bkL]
theorem bkL_mem {n m k : Nat} (h : k ∈ bkL n m) : k < n := by
  simp [bkL] at h; omega
theorem backward_source (ao : Option Addr) (n cp : Nat) (w : World) : Calls Tryz.prog 92 #[.slice ao n cp] w fun e w' =>
    e = .returned (.func (.func 154) #[] #[.pointer (some ⟨w.heap.size, 0, none⟩)]) ∧ w.alloc (.cells #[.slice ao n cp] 24) = w' := by
  go_enter Tryz.func92, Tryz.ntmps92
  go_wp2
  go_ret
  exact ⟨rfl, rfl⟩
set_option maxHeartbeats 1000000 in
theorem backward1_source {bl n cp : Nat} {ao : Option Addr} {c : Nat → Nat → Value} {w : World} (hl : w.cell? ⟨bl, 0, none⟩ = some (.slice ao n cp)) (hs : SlAt w ao n 3 c) (hn : n ≤ 100000) :
    IterC Tryz.prog 154 #[.pointer (some ⟨bl, 0, none⟩)] (fun k : Nat => #[.int .i64 k, .agg #[c k 0, c k 1, c k 2]]) (bkL n 0) (fun _ => False) (fun k => k = bl ∨ (0 < n ∧ ∃ a, ao = some a ∧ a.block = k)) w := by
  intro l J W hK hJ hY hj0
  have HJ := Lib.hid hJ; clear hJ
  have HY := Lib.hid hY; clear hY
  have hlW := hK.cell hl (.inl rfl)
  have hsW : SlAt W ao n 3 c := hs.keptK hK (fun h0 a ha => .inr ⟨h0, a, ha, rfl⟩)
  have hn2 : (n : Int) ≤ 100000 := by omega
  clear hK hl hs
  refine callsIn_of_wp Tryz.func154 rfl trivial ?_ rfl
  simp only [Tryz.ntmps154, List.size_toArray, List.length_cons, List.length_nil, Nat.reduceAdd, Nat.reduceSub, Array.replicate_succ, Array.replicate_zero, List.push_toArray, List.append_toArray, List.nil_append, List.cons_append]
  gi_wp2
  gi_loopw [3] (fun s3 wr => ∃ m : Nat, m ≤ n ∧ s3 = .int .i64 ((m : Int) - 1) ∧ J (bkL n m) wr ∧ Kept (fun k => k = bl ∨ (0 < n ∧ ∃ a, ao = some a ∧ a.block = k)) W wr) (fun s3 _ => (Lib.intOf s3 + 1).toNat)
  case atStart => exact ⟨n, Nat.le_refl _, by go_num, (bkL_top n).symm ▸ hj0, Kept.refl _ _⟩
  case round =>
    obtain ⟨m, hm, rfl, hj, hk⟩ := hrel
    rcases m with _ | k
    · gi_wp2_with fail
      go_end0
      exact ⟨⟨_, rfl⟩, hj⟩
    · have hkn : k < n := hm
      obtain ⟨a, off, rfl, hcs⟩ := (hsW.keptK hk (fun h0 a ha => .inr ⟨h0, a, ha, rfl⟩)).resolve_left (by omega)
      have c0 := hk.cell hlW (.inl rfl)
      have d0 := hcs k hkn 0 (by omega); have d1 := hcs k hkn 1 (by omega); have d2 := hcs k hkn 2 (by omega); simp only [Nat.add_zero] at d0
      clear hcs
      have hk1 : (k : Int) < n := by omega
      have hk0 : (0 : Int) ≤ k := by omega
      have hkk : ((k + 1 : Nat) : Int) - 1 = k := by omega
      rw [hkk]
      obtain ⟨fn, tmps, assign, body, hy, hR⟩ := HY.out (bkL n (k + 1)) k wr (by rw [← bkL_step hkn]; exact bkL_pre (by omega)) hj
      have HR := Lib.hid hR; clear hR
      clear hj hkk
      gi_wp2_with fail
      refine ⟨rfl, ?_⟩
      refine HR.out.mono ?_
      rintro e W3 ⟨rfl, hJ3, hk3⟩
      have HJ3 := Lib.hid hJ3; clear hJ3
      gi_wp2_with fail
      exact ⟨⟨k, by omega, by go_num, bkL_step hkn ▸ HJ3.out, hk.trans hk3⟩, by simp [Lib.intOf]⟩
theorem backward_dest (ao : Option Addr) (n cp : Nat) (w : World) : Calls Tryz.prog 93 #[.slice ao n cp] w fun e w' =>
    e = .returned (.func (.func 155) #[] #[.pointer (some ⟨w.heap.size, 0, none⟩)]) ∧ w.alloc (.cells #[.slice ao n cp] 25) = w' := by
  go_enter Tryz.func93, Tryz.ntmps93
  go_wp2
  go_ret
  exact ⟨rfl, rfl⟩
set_option maxHeartbeats 1000000 in
theorem backward1_dest {bl n cp : Nat} {ao : Option Addr} {c : Nat → Nat → Value} {w : World} (hl : w.cell? ⟨bl, 0, none⟩ = some (.slice ao n cp)) (hs : SlAt w ao n 2 c) (hn : n ≤ 100000) :
    IterC Tryz.prog 155 #[.pointer (some ⟨bl, 0, none⟩)] (fun k : Nat => #[.int .i64 k, .agg #[c k 0, c k 1]]) (bkL n 0) (fun _ => False) (fun k => k = bl ∨ (0 < n ∧ ∃ a, ao = some a ∧ a.block = k)) w := by
  intro l J W hK hJ hY hj0
  have HJ := Lib.hid hJ; clear hJ
  have HY := Lib.hid hY; clear hY
  have hlW := hK.cell hl (.inl rfl)
  have hsW : SlAt W ao n 2 c := hs.keptK hK (fun h0 a ha => .inr ⟨h0, a, ha, rfl⟩)
  have hn2 : (n : Int) ≤ 100000 := by omega
  clear hK hl hs
  refine callsIn_of_wp Tryz.func155 rfl trivial ?_ rfl
  simp only [Tryz.ntmps155, List.size_toArray, List.length_cons, List.length_nil, Nat.reduceAdd, Nat.reduceSub, Array.replicate_succ, Array.replicate_zero, List.push_toArray, List.append_toArray, List.nil_append, List.cons_append]
  gi_wp2
  gi_loopw [3] (fun s3 wr => ∃ m : Nat, m ≤ n ∧ s3 = .int .i64 ((m : Int) - 1) ∧ J (bkL n m) wr ∧ Kept (fun k => k = bl ∨ (0 < n ∧ ∃ a, ao = some a ∧ a.block = k)) W wr) (fun s3 _ => (Lib.intOf s3 + 1).toNat)
  case atStart => exact ⟨n, Nat.le_refl _, by go_num, (bkL_top n).symm ▸ hj0, Kept.refl _ _⟩
  case round =>
    obtain ⟨m, hm, rfl, hj, hk⟩ := hrel
    rcases m with _ | k
    · gi_wp2_with fail
      go_end0
      exact ⟨⟨_, rfl⟩, hj⟩
    · have hkn : k < n := hm
      obtain ⟨a, off, rfl, hcs⟩ := (hsW.keptK hk (fun h0 a ha => .inr ⟨h0, a, ha, rfl⟩)).resolve_left (by omega)
      have c0 := hk.cell hlW (.inl rfl)
      have d0 := hcs k hkn 0 (by omega); have d1 := hcs k hkn 1 (by omega); simp only [Nat.add_zero] at d0
      clear hcs
      have hk1 : (k : Int) < n := by omega
      have hk0 : (0 : Int) ≤ k := by omega
      have hkk : ((k + 1 : Nat) : Int) - 1 = k := by omega
      rw [hkk]
      obtain ⟨fn, tmps, assign, body, hy, hR⟩ := HY.out (bkL n (k + 1)) k wr (by rw [← bkL_step hkn]; exact bkL_pre (by omega)) hj
      have HR := Lib.hid hR; clear hR
      clear hj hkk
      gi_wp2_with fail
      refine ⟨rfl, ?_⟩
      refine HR.out.mono ?_
      rintro e W3 ⟨rfl, hJ3, hk3⟩
      have HJ3 := Lib.hid hJ3; clear hJ3
      gi_wp2_with fail
      exact ⟨⟨k, by omega, by go_num, bkL_step hkn ▸ HJ3.out, hk.trans hk3⟩, by simp [Lib.intOf]⟩
theorem backward_int (ao : Option Addr) (n cp : Nat) (w : World) : Calls Tryz.prog 94 #[.slice ao n cp] w fun e w' =>
    e = .returned (.func (.func 156) #[] #[.pointer (some ⟨w.heap.size, 0, none⟩)]) ∧ w.alloc (.cells #[.slice ao n cp] 63) = w' := by
  go_enter Tryz.func94, Tryz.ntmps94
  go_wp2
  go_ret
  exact ⟨rfl, rfl⟩
set_option maxHeartbeats 1000000 in
theorem backward1_int {bl n cp : Nat} {ao : Option Addr} {c : Nat → Nat → Value} {w : World} (hl : w.cell? ⟨bl, 0, none⟩ = some (.slice ao n cp)) (hs : SlAt w ao n 1 c) (hn : n ≤ 100000) :
    IterC Tryz.prog 156 #[.pointer (some ⟨bl, 0, none⟩)] (fun k : Nat => #[.int .i64 k, c k 0]) (bkL n 0) (fun _ => False) (fun k => k = bl ∨ (0 < n ∧ ∃ a, ao = some a ∧ a.block = k)) w := by
  intro l J W hK hJ hY hj0
  have HJ := Lib.hid hJ; clear hJ
  have HY := Lib.hid hY; clear hY
  have hlW := hK.cell hl (.inl rfl)
  have hsW : SlAt W ao n 1 c := hs.keptK hK (fun h0 a ha => .inr ⟨h0, a, ha, rfl⟩)
  have hn2 : (n : Int) ≤ 100000 := by omega
  clear hK hl hs
  refine callsIn_of_wp Tryz.func156 rfl trivial ?_ rfl
  simp only [Tryz.ntmps156, List.size_toArray, List.length_cons, List.length_nil, Nat.reduceAdd, Nat.reduceSub, Array.replicate_succ, Array.replicate_zero, List.push_toArray, List.append_toArray, List.nil_append, List.cons_append]
  gi_wp2
  gi_loopw [3] (fun s3 wr => ∃ m : Nat, m ≤ n ∧ s3 = .int .i64 ((m : Int) - 1) ∧ J (bkL n m) wr ∧ Kept (fun k => k = bl ∨ (0 < n ∧ ∃ a, ao = some a ∧ a.block = k)) W wr) (fun s3 _ => (Lib.intOf s3 + 1).toNat)
  case atStart => exact ⟨n, Nat.le_refl _, by go_num, (bkL_top n).symm ▸ hj0, Kept.refl _ _⟩
  case round =>
    obtain ⟨m, hm, rfl, hj, hk⟩ := hrel
    rcases m with _ | k
    · gi_wp2_with fail
      go_end0
      exact ⟨⟨_, rfl⟩, hj⟩
    · have hkn : k < n := hm
      obtain ⟨a, off, rfl, hcs⟩ := (hsW.keptK hk (fun h0 a ha => .inr ⟨h0, a, ha, rfl⟩)).resolve_left (by omega)
      have c0 := hk.cell hlW (.inl rfl)
      have d0 := hcs k hkn 0 (by omega); simp only [Nat.mul_one, Nat.add_zero] at d0
      clear hcs
      have hk1 : (k : Int) < n := by omega
      have hk0 : (0 : Int) ≤ k := by omega
      have hkk : ((k + 1 : Nat) : Int) - 1 = k := by omega
      rw [hkk]
      obtain ⟨fn, tmps, assign, body, hy, hR⟩ := HY.out (bkL n (k + 1)) k wr (by rw [← bkL_step hkn]; exact bkL_pre (by omega)) hj
      have HR := Lib.hid hR; clear hR
      clear hj hkk
      gi_wp2_with fail
      refine ⟨rfl, ?_⟩
      refine HR.out.mono ?_
      rintro e W3 ⟨rfl, hJ3, hk3⟩
      have HJ3 := Lib.hid hJ3; clear hJ3
      gi_wp2_with fail
      exact ⟨⟨k, by omega, by go_num, bkL_step hkn ▸ HJ3.out, hk.trans hk3⟩, by simp [Lib.intOf]⟩
end Go.Proofs.YteblahoijolegaaGreatDoor
end
