import Derived.Test.YteblahoijolegaaGreatDoorM20
import Derived.BigQuiet
import Derived.BigRegion
import Derived.ChangeAlike
import Derived.Deep.DeepCutAuto
import Derived.Deep.Light
import Derived.Deep.LoopGhost
import Derived.Deep.MidRow
import Derived.Deep.QuietTactic
import Derived.Deep.RegionHeld3
import Derived.Deep.WholeRow
import Derived.Defers
import Derived.Great.Walk
import Derived.Laws.BitsAllLaws
import Derived.Laws.CopyOwn
import Derived.Laws.EntriesVeiled
import Derived.Laws.LoneSync
import Derived.Laws.Pointers
import Derived.Laws.StructEq
import Derived.Lib.Hide
import Derived.Lib.LazyBuf
import Derived.Lib.SliceRun
import Derived.LoopIn
import Derived.LoopNIn
import Derived.Maps.AppendAt
import Derived.OwnWalkIn
import Derived.RangeFuncBox
import Derived.RangeFuncKeeps
import Derived.RangeFuncLeaves
import Derived.RangeFuncSeq
import Derived.RegionCalls
import Derived.RegionIn
import Derived.RegionTactic
import Derived.Shelf.Abstract
import Derived.TacticsInMore
import Derived.Test.YteblahoijolegaaGreatDoorShelf
import Derived.WalkKit
import Derived.WalkLawsBesides
import Derived.WalkSpells
import Derived.WideLaws
section
set_option linter.all false
namespace Go.Proofs.YteblahoijolegaaGreatDoor
open Go.RowKit

theorem slAt_congr {w : World} {ao : Option Addr} {n K : Nat} {c c' : Nat → Nat → Value} (h : SlAt w ao n K c) (hc : ∀ k, k < n → ∀ j, j < K → c k j = c' k j) : SlAt w ao n K c' := by
  rcases h with h | ⟨a, off, h1, h2⟩
  · exact .inl h
  · exact .inr ⟨a, off, h1, fun i hi j hj => by rw [h2 i hi j hj, hc i hi j hj]⟩
theorem lab_nat {n : Nat} {a : Int} (h : labB n a = true) : ∃ k : Nat, a = k ∧ k < n := by
  have := of_decide_eq_true h
  exact ⟨a.toNat, by omega, by omega⟩
theorem calE_range1 {nw : Nat} {f : Nat → Int × Int} {i : Nat} (h : labB nw (f i).1 = false) : calE nw f i = 9 := by simp [calE, h]
theorem calE_range2 {nw : Nat} {f : Nat → Int × Int} {i : Nat} (h : labB nw (f i).2 = false) : calE nw f i = 9 := by simp [calE, h]
theorem calE_dup {nw : Nat} {f : Nat → Int × Int} {i : Nat} (h1 : labB nw (f i).1 = true) (h2 : labB nw (f i).2 = true) (h : anyx (fun k => (f i).1 == (f k).1 && (f i).2 == (f k).2) i = true) : calE nw f i = 80 := by
  rw [calE, h1, h2, h]; rfl
theorem calE_come {nw : Nat} {f : Nat → Int × Int} {i : Nat} {b : Bool} (h1 : labB nw (f i).1 = true) (h2 : labB nw (f i).2 = true) (h : anyx (fun k => (f i).1 == (f k).1 && (f i).2 == (f k).2) i = false)
    (hc : (comesF (fun k => natP (f k)) i (natP (f i)).1 7 (natP (f i)).2 fun _ => 0).1 = b) : calE nw f i = if b then 20 else 0 := by
  rw [calE, h1, h2, h, hc]; rfl
set_option maxHeartbeats 4000000 in
set_option maxRecDepth 20000 in
theorem judge_call {w : World} {bj bp a off n cp nw cpW : Nat} {aoW : Option Addr} {f : Nat → Int × Int} (hJ : Cells w [(bj, 0, .pointer (some ⟨bp, 0, none⟩)), (bp, 4, .slice aoW nw cpW), (bp, 6, .slice (some ⟨a, off, none⟩) n cp)])
    (hs : SlAt w (some ⟨a, off, none⟩) n 2 (prC f)) (hn : n ≤ 100000) (hcp : n ≤ cp) (hnw : nw ≤ 6) (i : Nat) (hi : i < n) (hpre : ∀ k, k < i → labB nw (f k).1 = true ∧ labB nw (f k).2 = true) :
    Calls Tryz.prog 55 #[.pointer (some ⟨bj, 0, none⟩), .int .i64 i, .agg #[.int .i64 (f i).1, .int .i64 (f i).2]] w fun e w' => e = .returned (.int .i64 (calE nw f i)) ∧ Below w.heap.size w w' := by
  have hi2 : (i : Int) ≤ n := by omega
  have hi3 : (i : Int) ≤ cp := by omega
  have hn3 : (n : Int) ≤ cp := by omega
  have hi0 : (0 : Int) ≤ i := by omega
  obtain ⟨w0, hw0⟩ : ∃ w0 : World, w0 = ((w.alloc (.cells #[.pointer (some ⟨bj, 0, none⟩)] 118)).alloc (.cells #[.int .i64 i] 3)).alloc (.cells #[.int .i64 (f i).1, .int .i64 (f i).2] 60) := ⟨_, rfl⟩
  have hb0 : Below w.heap.size w w0 := by rw [hw0]; (repeat first | exact Below.refl _ _ | assumption | refine Below.alloc ?_ (by simp; try omega) _ | refine Below.drew ?_ | refine Below.drewN ?_ _ | refine Below.setCell ?_ (by simp; try omega) _ | refine Below.trans ?_ (Below.mono (by assumption) (by simp; try omega)))
  have g1 : w0.heap[w.heap.size]? = some (.cells #[.pointer (some ⟨bj, 0, none⟩)] 118) := by rw [hw0]; (simp only [heap_drew, heap_allocs, World.size_alloc, if_true] <;> repeat (first | rw [if_pos (by omega)] | rw [if_neg (by omega)]))
  have g2 : w0.heap[w.heap.size + 1]? = some (.cells #[.int .i64 i] 3) := by rw [hw0]; (simp only [heap_drew, heap_allocs, World.size_alloc, if_true] <;> repeat (first | rw [if_pos (by omega)] | rw [if_neg (by omega)]))
  have g3 : w0.heap[w.heap.size + 2]? = some (.cells #[.int .i64 (f i).1, .int .i64 (f i).2] 60) := by rw [hw0]; (simp only [heap_drew, heap_allocs, World.size_alloc, if_true] <;> repeat (first | rw [if_pos (by omega)] | rw [if_neg (by omega)]))
  have hJ0 := hJ.below hb0
  have HSZ := Lib.hid (show w0.heap.size = w.heap.size + 3 by rw [hw0]; simp)
  have q0 := cell_of (o := 0) g1
  have q1 := cell_of (o := 0) g2
  have q2 := cell_of (o := 0) g3
  have q3 := cell_of (o := 1) g3
  have x0 := hJ0.head; have x1 := hJ0.tail.tail.head
  have hw1 := judge_work (nl := nw) (f i).1 hJ0.head hJ0.tail.head
  have hw2 := judge_work (nl := nw) (f i).2 hJ0.head hJ0.tail.head
  have hct := fun W (hW : Below w.heap.size w W) => contains_pair (some ⟨a, off, none⟩) i cp (by omega) f (f i) W (slAt_take (hs.below hW) (by omega))
  have HCt := Lib.hid (show ∀ W, Below w.heap.size w W → _ from hct); clear hct
  have HSL := Lib.hid hs; clear hs
  have HPre := Lib.hid hpre; clear hpre
  have G1 := Lib.hid g1; have G2 := Lib.hid g2; have G3 := Lib.hid g3
  have HJ0 := Lib.hid hJ0
  have HW := Lib.hid hw0; clear hw0 g1 g2 g3 hJ hJ0
  cases e1 : labB nw (f i).1
  · rw [calE_range1 e1]
    rw [e1] at hw1
    clear e1
    go_enter Tryz.func55, Tryz.ntmps55
    go_wp2_with fail
    rw [← HW.out]
    refine hw1.mono ?_
    rintro e w1 ⟨rfl, rfl⟩
    go_wp2_with fail
    go_ret
    exact ⟨rfl, hb0⟩
  · rw [e1] at hw1
    have E1 := Lib.hid e1; clear e1
    cases e2 : labB nw (f i).2
    · rw [calE_range2 e2]
      rw [e2] at hw2
      clear e2
      go_enter Tryz.func55, Tryz.ntmps55
      go_wp2_with fail
      rw [← HW.out]
      refine hw1.mono ?_
      rintro e w1 ⟨rfl, rfl⟩
      go_wp2_with fail
      refine hw2.mono ?_
      rintro e w1 ⟨rfl, rfl⟩
      go_wp2_with fail
      go_ret
      exact ⟨rfl, hb0⟩
    · rw [e2] at hw2
      have E2 := Lib.hid e2; clear e2
      cases e3 : anyx (fun k => (f i).1 == (f k).1 && (f i).2 == (f k).2) i
      · have E3 := Lib.hid e3
        have HCt2 := Lib.hid (show ∀ W, Below w.heap.size w W → Calls Tryz.prog 124 #[.slice (some ⟨a, off, none⟩) i cp, .agg #[.int .i64 (f i).1, .int .i64 (f i).2]] W (fun e w' => e = .returned (.bool false) ∧ Below W.heap.size W w') from fun W hW => by rw [← e3]; exact HCt.out W hW)
        clear e3
        go_enter Tryz.func55, Tryz.ntmps55
        go_wp2_with fail
        rw [← HW.out]
        refine hw1.mono ?_
        rintro e w1 ⟨rfl, rfl⟩
        go_wp2_with fail
        refine hw2.mono ?_
        rintro e w1 ⟨rfl, rfl⟩
        go_wp2_with fail
        go_region_held3 (fun w' => w'.cell? ⟨w.heap.size, 0, none⟩ = some (.pointer (some ⟨bj, 0, none⟩)) ∧ w'.cell? ⟨bj, 0, none⟩ = some (.pointer (some ⟨bp, 0, none⟩)) ∧ w'.cell? ⟨bp, 6, none⟩ = some (.slice (some ⟨a, off, none⟩) n cp) ∧ w'.cell? ⟨w.heap.size + 1, 0, none⟩ = some (.int .i64 i) ∧ w'.cell? ⟨w.heap.size + 1 + 1, 0, none⟩ = some (.int .i64 (f i).1) ∧ w'.cell? ⟨w.heap.size + 1 + 1, 1, none⟩ = some (.int .i64 (f i).2))
          (first | exact ⟨q0, x0, x1, q1, q2, q3⟩ | (go_split_ands; (repeat' apply And.intro) <;> exact (hbA.cell (cell_lt (by assumption))).trans (by assumption)))
          (first
            | (go_at_call 124; refine (HCt2.out _ hb0.drew).mono ?_; rintro e wA ⟨rfl, hbA⟩))
        all_goals
          have hbw : Below w.heap.size w wA := hb0.drew.trans (hbA.mono hb0.drew.size)
          have hbw0 : Below w0.heap.size w0 wA := (Below.refl _ w0).drew.trans (hbA.mono (Nat.le_refl _))
          clear hbA
          obtain ⟨w4, hw4⟩ : ∃ w4 : World, w4 = (wA.alloc (.cells #[.int .i64 0, .int .i64 0, .int .i64 0, .int .i64 0, .int .i64 0, .int .i64 0] 213)).alloc (.cells #[comesV (w.heap.size + 1 + 1) wA.heap.size w.heap.size (w.heap.size + 1) (wA.heap.size + 1)] 167) := ⟨_, rfl⟩
          have hb4 : Below wA.heap.size wA w4 := by rw [hw4]; (repeat first | exact Below.refl _ _ | assumption | refine Below.alloc ?_ (by simp; try omega) _ | refine Below.drew ?_ | refine Below.drewN ?_ _ | refine Below.setCell ?_ (by simp; try omega) _ | refine Below.trans ?_ (Below.mono (by assumption) (by simp; try omega)))
          have hsA : w0.heap.size ≤ wA.heap.size := hbw0.size
          have hs0 : w0.heap.size = w.heap.size + 3 := HSZ.out
          have hb04 := hbw0.trans (hb4.mono hsA)
          have k1 : w4.heap[wA.heap.size]? = some (.cells #[.int .i64 0, .int .i64 0, .int .i64 0, .int .i64 0, .int .i64 0, .int .i64 0] 213) := by rw [hw4]; (simp only [heap_drew, heap_allocs, World.size_alloc, if_true] <;> repeat (first | rw [if_pos (by omega)] | rw [if_neg (by omega)]))
          have k2 : w4.heap[wA.heap.size + 1]? = some (.cells #[comesV (w.heap.size + 1 + 1) wA.heap.size w.heap.size (w.heap.size + 1) (wA.heap.size + 1)] 167) := by rw [hw4]; (simp only [heap_drew, heap_allocs, World.size_alloc, if_true] <;> repeat (first | rw [if_pos (by omega)] | rw [if_neg (by omega)]))
          have hJ4 := HJ0.out.below hb04
          have m0 := cell_of (o := 0) ((hb04.block _ (by omega)).trans G1.out)
          have m1 := cell_of (o := 0) ((hb04.block _ (by omega)).trans G2.out)
          have m2 := cell_of (o := 0) ((hb04.block _ (by omega)).trans G3.out)
          have m3 := cell_of (o := 1) ((hb04.block _ (by omega)).trans G3.out)
          have m4 : w4.cell? ⟨w.heap.size + 1 + 1, 1, none⟩ = some (.int .i64 (f i).2) := m3
          obtain ⟨c0, hc0, hc0l⟩ := lab_nat E1.out
          obtain ⟨c1, hc1, hc1l⟩ := lab_nat E2.out
          have hn0 : natP (f i) = (c0, c1) := by simp [natP, hc0, hc1]
          have hal : a < w.heap.size := by
            obtain ⟨a', off', h1, h2⟩ := HSL.out.resolve_left (by omega)
            cases h1
            exact cell_lt (h2 0 (by omega) 0 (by omega))
          have hE : EnvC [(w.heap.size + 1 + 1, 0, .int .i64 c0), (w.heap.size, 0, .pointer (some ⟨bj, 0, none⟩)), (bj, 0, .pointer (some ⟨bp, 0, none⟩)), (bp, 6, .slice (some ⟨a, off, none⟩) n cp), (w.heap.size + 1, 0, .int .i64 i), (wA.heap.size + 1, 0, comesV (w.heap.size + 1 + 1) wA.heap.size w.heap.size (w.heap.size + 1) (wA.heap.size + 1))]
              i n cp c0 a off wA.heap.size (w.heap.size + 1 + 1) w.heap.size bj bp (w.heap.size + 1) (wA.heap.size + 1) := by
            refine ⟨rfl, ?_, by omega, hi, hn, hcp⟩
            have l1 := cell_lt HJ0.out.head
            have l2 := cell_lt HJ0.out.tail.head
            intro x hx
            simp only [List.mem_cons, List.not_mem_nil, or_false] at hx
            rcases hx with rfl | rfl | rfl | rfl | rfl | rfl <;> dsimp only <;> omega
          have hcells : Cells w4 [(w.heap.size + 1 + 1, 0, .int .i64 c0), (w.heap.size, 0, .pointer (some ⟨bj, 0, none⟩)), (bj, 0, .pointer (some ⟨bp, 0, none⟩)), (bp, 6, .slice (some ⟨a, off, none⟩) n cp), (w.heap.size + 1, 0, .int .i64 i), (wA.heap.size + 1, 0, comesV (w.heap.size + 1 + 1) wA.heap.size w.heap.size (w.heap.size + 1) (wA.heap.size + 1))] :=
            .cons (by rw [← hc0]; exact m2) (.cons m0 (.cons hJ4.head (.cons hJ4.tail.tail.head (.cons m1 (.cons (cell_of (o := 0) k2) (.nil _))))))
          have hseen : SeenAt w4 wA.heap.size (fun _ => 0) := ⟨_, k1, fun k hk => by rcases (by omega : k = 0 ∨ k = 1 ∨ k = 2 ∨ k = 3 ∨ k = 4 ∨ k = 5) with rfl | rfl | rfl | rfl | rfl | rfl <;> rfl⟩
          have hsl : SlAt w4 (some ⟨a, off, none⟩) i 2 (fun k j => .int .i64 (if j = 0 then ((natP (f k)).1 : Int) else ((natP (f k)).2 : Int))) :=
            slAt_congr ((slAt_take HSL.out (by omega)).below (hbw.trans (hb4.mono hbw.size))) (fun k hk j hj => by
              obtain ⟨x, hx, _⟩ := lab_nat (HPre.out k hk).1
              obtain ⟨y, hy, _⟩ := lab_nat (HPre.out k hk).2
              simp only [prC, natP]
              split <;> simp [hx, hy])
          have hcom := comes_all hE (g := fun k => natP (f k)) (fun k hk => by
            obtain ⟨y, hy, hy2⟩ := lab_nat (HPre.out k hk).2
            simp only [natP, hy, Int.toNat_natCast]; omega) 7 c1 (fun _ => 0) (i * 6) w4 (by omega) (by decide) (fun k => by simp [unS, zS]) (by omega) hcells hsl hseen
          have hcr := calE_come (b := (comesF (fun k => natP (f k)) i c0 7 c1 fun _ => 0).1) E1.out E2.out E3.out (by rw [hn0])
          generalize (comesF (fun k => natP (f k)) i c0 7 c1 fun _ => 0) = r at hcom hcr
          obtain ⟨rb, rs⟩ := r
          dsimp only at hcom hcr
          have HCR := Lib.hid hcr
          rw [← hc1] at hcom
          have hbf := hbw.trans (hb4.mono hbw.size)
          have HCom := Lib.hid hcom
          have HBf := Lib.hid hbf
          simp only [comesV] at hw4
          have HW4 := Lib.hid hw4
          rw [hw4] at m4
          have hlw : w.heap.size ≤ wA.heap.size := hbw.size
          clear hcom hbf hw4 hsl hseen hcells hE hcr hn0 hJ4 m0 m1 m2 m3 k1 k2 hc0 hc1
          go_wp2_with fail
          rw [← HW4.out]
          refine HCom.out.mono ?_
          rintro e w5 ⟨rfl, -, -, -, hk5⟩
          have hb5 := HBf.out.trans (hk5.below (HBf.out.size) (fun k hk => by omega))
          cases rb
          · go_wp2_with fail
            go_ret
            exact ⟨by rw [HCR.out]; rfl, hb5⟩
          · go_wp2_with fail
            go_ret
            exact ⟨by rw [HCR.out]; rfl, hb5⟩
      · rw [calE_dup E1.out E2.out e3]
        have HCt2 := Lib.hid (show ∀ W, Below w.heap.size w W → Calls Tryz.prog 124 #[.slice (some ⟨a, off, none⟩) i cp, .agg #[.int .i64 (f i).1, .int .i64 (f i).2]] W (fun e w' => e = .returned (.bool true) ∧ Below W.heap.size W w') from fun W hW => by rw [← e3]; exact HCt.out W hW)
        clear e3
        go_enter Tryz.func55, Tryz.ntmps55
        go_wp2_with fail
        rw [← HW.out]
        refine hw1.mono ?_
        rintro e w1 ⟨rfl, rfl⟩
        go_wp2_with fail
        refine hw2.mono ?_
        rintro e w1 ⟨rfl, rfl⟩
        go_wp2_with fail
        go_region_held3 (fun w' => w'.cell? ⟨w.heap.size, 0, none⟩ = some (.pointer (some ⟨bj, 0, none⟩)) ∧ w'.cell? ⟨bj, 0, none⟩ = some (.pointer (some ⟨bp, 0, none⟩)) ∧ w'.cell? ⟨bp, 6, none⟩ = some (.slice (some ⟨a, off, none⟩) n cp) ∧ w'.cell? ⟨w.heap.size + 1, 0, none⟩ = some (.int .i64 i) ∧ w'.cell? ⟨w.heap.size + 1 + 1, 0, none⟩ = some (.int .i64 (f i).1) ∧ w'.cell? ⟨w.heap.size + 1 + 1, 1, none⟩ = some (.int .i64 (f i).2))
          (first | exact ⟨q0, x0, x1, q1, q2, q3⟩ | (go_split_ands; (repeat' apply And.intro) <;> exact (hbA.cell (cell_lt (by assumption))).trans (by assumption)))
          (first
            | (go_at_call 124; refine (HCt2.out _ hb0.drew).mono ?_; rintro e wA ⟨rfl, hbA⟩))
        all_goals
          have hbw : Below w.heap.size w wA := hb0.drew.trans (hbA.mono hb0.drew.size)
          go_wp2_with fail
          go_ret
          exact ⟨rfl, hbw⟩
end Go.Proofs.YteblahoijolegaaGreatDoor
end
