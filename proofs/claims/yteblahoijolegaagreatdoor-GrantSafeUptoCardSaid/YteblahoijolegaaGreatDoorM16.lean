import Derived.Test.YteblahoijolegaaGreatDoorM15
import Derived.BigQuiet
import Derived.BigRegion
import Derived.ChangeAlike
import Derived.Deep.DeepCutAuto
import Derived.Deep.Light
import Derived.Deep.LoopGhost
import Derived.Deep.MidRow
import Derived.Deep.QuietTactic
import Derived.Deep.RegionHeld3
import Derived.Deep.WholeRow
import Derived.Defers
import Derived.Great.Walk
import Derived.Laws.BitsAllLaws
import Derived.Laws.CopyOwn
import Derived.Laws.EntriesVeiled
import Derived.Laws.LoneSync
import Derived.Laws.Pointers
import Derived.Laws.StructEq
import Derived.Lib.Hide
import Derived.Lib.LazyBuf
import Derived.Lib.SliceRun
import Derived.LoopIn
import Derived.LoopNIn
import Derived.Maps.AppendAt
import Derived.OwnWalkIn
import Derived.RangeFuncBox
import Derived.RangeFuncKeeps
import Derived.RangeFuncLeaves
import Derived.RangeFuncSeq
import Derived.RegionCalls
import Derived.RegionIn
import Derived.RegionTactic
import Derived.Shelf.Abstract
import Derived.TacticsInMore
import Derived.Test.YteblahoijolegaaGreatDoorShelf
import Derived.WalkKit
import Derived.WalkLawsBesides
import Derived.WalkSpells
import Derived.WideLaws
section
set_option linter.all false
namespace Go.Proofs.YteblahoijolegaaGreatDoor
open Go.RowKit

def rteE (nw : Nat) (hit dup : Bool) (hst pre : ByteArray) (wk wt : Int) : Int := if !plainB hst then 60 else if hit then 80 else if !pathB pre then 4 else if !labB nw wk then 9 else if !decide (1 ≤ wt) || !decide (wt ≤ 100) then 2 else if dup then 80 else 0
set_option maxHeartbeats 2000000 in
set_option maxRecDepth 20000 in
theorem judge_route {w : World} {bj bp a off n cp nD cpD nw cpW : Nat} {aoD aoW : Option Addr} {c cd : Nat → Nat → Value} {ks : Nat → ByteArray × ByteArray × Int} {kd : Nat → ByteArray}
    (hsd : SlAt w aoD nD 2 cd) (hnD : nD ≤ 100000) (hkd : ∀ k, k < nD → cd k 0 = .string (kd k)) (hJ : Cells w [(bj, 0, .pointer (some ⟨bp, 0, none⟩)), (bp, 3, .slice aoD nD cpD), (bp, 4, .slice aoW nw cpW), (bp, 5, .slice (some ⟨a, off, none⟩) n cp)]) (hs : SlAt w (some ⟨a, off, none⟩) n 4 c) (hn : n ≤ 100000) (hcp : n ≤ cp) (hks : ∀ k, k < n → c k 0 = .string (ks k).1 ∧ c k 1 = .string (ks k).2.1 ∧ c k 2 = .int .i64 (ks k).2.2 ∧ ∃ y, c k 3 = .int .i64 y) (i : Nat) (hi : i < n) (hst pre : ByteArray) (wk wt : Int) (hsz2 : hst.size ≤ 9223372036854775807) (hsz : pre.size ≤ 9223372036854775807) :
    Calls Tryz.prog 52 #[.pointer (some ⟨bj, 0, none⟩), .int .i64 i, .agg #[.string hst, .string pre, .int .i64 wk, .int .i64 wt]] w fun e w' => e = .returned (.int .i64 (rteE nw (anyx (fun k => sameS (kd k) hst) nD) (anyx (fun k => sameR (ks k) (ks i)) i) hst pre wk wt)) ∧ Below w.heap.size w w' := by
  obtain ⟨w0, hw0⟩ : ∃ w0 : World, w0 = w.alloc (.cells #[.string hst, .string pre, .int .i64 wk, .int .i64 wt] 130) := ⟨_, rfl⟩
  have hb0 : Below w.heap.size w w0 := by rw [hw0]; exact (Below.refl _ w).alloc (Nat.le_refl _) _
  have hn0 : w0.heap[w.heap.size]? = some (.cells #[.string hst, .string pre, .int .i64 wk, .int .i64 wt] 130) := by rw [hw0]; exact heap_new w _
  have hc0 : Cells w0 [(bj, 0, .pointer (some ⟨bp, 0, none⟩)), (bp, 3, .slice aoD nD cpD), (bp, 4, .slice aoW nw cpW), (bp, 5, .slice (some ⟨a, off, none⟩) n cp), (w.heap.size, 0, .string hst), (w.heap.size, 1, .string pre), (w.heap.size, 2, .int .i64 wk), (w.heap.size, 3, .int .i64 wt)] := .cons (hJ.below hb0).head (.cons (hJ.below hb0).tail.head (.cons (hJ.below hb0).tail.tail.head (.cons (hJ.below hb0).tail.tail.tail.head (.cons (cell_of (o := 0) hn0) (.cons (cell_of (o := 1) hn0) (.cons (cell_of (o := 2) hn0) (.cons (cell_of (o := 3) hn0) (.nil _))))))))
  have hs0 := hs.below hb0
  have hsd0 := hsd.below hb0
  have HC := Lib.hid hc0; clear hc0 hJ
  have HW := Lib.hid hw0; clear hw0 hn0
  have K_p := Lib.hid (show ∀ W, Below w0.heap.size w0 W → Calls Tryz.prog 113 #[.string hst] W fun e w' => e = .returned (.int .i64 (if plainB hst = true then 0 else 60)) ∧ Below W.heap.size W w' from fun W _ => host_Plain hst W hsz2); 
  have K_h := Lib.hid (show ∀ W, Below w0.heap.size w0 W → Calls Tryz.prog 119 #[.slice aoD nD cpD, .func (.func 120) #[] #[.pointer (some ⟨w.heap.size, 0, none⟩)]] W fun e w' => e = .returned (.bool (anyx (fun k => sameS (kd k) hst) nD)) ∧ Below W.heap.size W w' from fun W hW => containsFunc_dest aoD nD cpD hnD cd (fun k => sameS (kd k) hst) 120 #[.pointer (some ⟨w.heap.size, 0, none⟩)] (enters_of Tryz.func120 (by kernel_rfl) rfl) W (hsd0.below hW) (fun k hk V hV => by rw [hkd k hk]; exact route2 hst (cd k 1) (kd k) ((HC.out.below (hW.trans (hV.mono hW.size))).tail.tail.tail.tail.head))); 
  have K_t := Lib.hid (show ∀ W, Below w0.heap.size w0 W → Calls Tryz.prog 121 #[.string pre] W fun e w' => e = .returned (.bool (pathB pre)) ∧ Below W.heap.size W w' from fun W _ => policy_path pre W hsz); 
  have K_w := Lib.hid (show ∀ W, Below w0.heap.size w0 W → Calls Tryz.prog 122 #[.pointer (some ⟨bj, 0, none⟩), .int .i64 wk] W fun e w' => e = .returned (.bool (labB nw wk)) ∧ W = w' from fun W hW => judge_work wk (HC.out.below hW).head (HC.out.below hW).tail.tail.head); 
  have K_d := Lib.hid (show ∀ W, Below w0.heap.size w0 W → Calls Tryz.prog 123 #[.slice (some ⟨a, off, none⟩) n cp, .int .i64 i, .func (.func 118) #[] #[]] W fun e w' => e = .returned (.bool (anyx (fun k => sameR (ks k) (ks i)) i)) ∧ Below W.heap.size W w' from fun W hW => twice_route a off n cp c ks 118 (enters_of Tryz.func118 (by kernel_rfl) rfl) W i hi hn hcp (hs0.below hW) (fun k hk => by obtain ⟨h1, h2, h3, y, h4⟩ := hks k hk; rw [h1, h2, h3, h4]; exact key_route _ _ _ _)); 
  clear hs hs0 hks hsd hsd0 hkd
  rcases (Bool.eq_false_or_eq_true (plainB hst)).symm with e_p | e_p
  · have E_p := Lib.hid e_p
    have B_p := K_p.out
    rw [e_p] at B_p
    have B_p := Lib.hid B_p
    clear e_p
    have y := HC.out.below (Below.refl _ _)
    have x0 := y.head; have x1 := y.tail.head; have x2 := y.tail.tail.head; have x3 := y.tail.tail.tail.head; have x4 := y.tail.tail.tail.tail.head; have x5 := y.tail.tail.tail.tail.tail.head; have x6 := y.tail.tail.tail.tail.tail.tail.head; have x7 := y.tail.tail.tail.tail.tail.tail.tail.head
    clear y
    go_enter Tryz.func52, Tryz.ntmps52
    go_wp2_with fail
    rw [← HW.out]
    refine (B_p.out _ (Below.refl w0.heap.size w0)).mono ?_; rintro e w1 ⟨rfl, ha1⟩
    have hb1 := (Below.refl w0.heap.size w0).trans (ha1.mono (Below.refl w0.heap.size w0).size)
    clear x0 x1 x2 x3 x4 x5 x6 x7
    have hcc := HC.out.below hb1
    have x0 := hcc.head; have x1 := hcc.tail.head; have x2 := hcc.tail.tail.head; have x3 := hcc.tail.tail.tail.head; have x4 := hcc.tail.tail.tail.tail.head; have x5 := hcc.tail.tail.tail.tail.tail.head; have x6 := hcc.tail.tail.tail.tail.tail.tail.head; have x7 := hcc.tail.tail.tail.tail.tail.tail.tail.head
    clear hcc
    go_wp2_with fail
    go_ret
    exact ⟨by rw [rteE, E_p.out]; rfl, hb0.trans (hb1.mono hb0.size)⟩
  · have E_p := Lib.hid e_p
    have B_p := K_p.out
    rw [e_p] at B_p
    have B_p := Lib.hid B_p
    clear e_p
    rcases Bool.eq_false_or_eq_true (anyx (fun k => sameS (kd k) hst) nD) with e_h | e_h
    · have E_h := Lib.hid e_h
      have B_h := K_h.out
      rw [e_h] at B_h
      have B_h := Lib.hid B_h
      clear e_h
      have y := HC.out.below (Below.refl _ _)
      have x0 := y.head; have x1 := y.tail.head; have x2 := y.tail.tail.head; have x3 := y.tail.tail.tail.head; have x4 := y.tail.tail.tail.tail.head; have x5 := y.tail.tail.tail.tail.tail.head; have x6 := y.tail.tail.tail.tail.tail.tail.head; have x7 := y.tail.tail.tail.tail.tail.tail.tail.head
      clear y
      go_enter Tryz.func52, Tryz.ntmps52
      go_wp2_with fail
      rw [← HW.out]
      refine (B_p.out _ (Below.refl w0.heap.size w0)).mono ?_; rintro e w1 ⟨rfl, ha1⟩
      have hb1 := (Below.refl w0.heap.size w0).trans (ha1.mono (Below.refl w0.heap.size w0).size)
      clear x0 x1 x2 x3 x4 x5 x6 x7
      have hcc := HC.out.below hb1
      have x0 := hcc.head; have x1 := hcc.tail.head; have x2 := hcc.tail.tail.head; have x3 := hcc.tail.tail.tail.head; have x4 := hcc.tail.tail.tail.tail.head; have x5 := hcc.tail.tail.tail.tail.tail.head; have x6 := hcc.tail.tail.tail.tail.tail.tail.head; have x7 := hcc.tail.tail.tail.tail.tail.tail.tail.head
      clear hcc
      go_wp2_with fail
      refine (B_h.out _ hb1).mono ?_; rintro e w2 ⟨rfl, ha2⟩
      have hb2 := hb1.trans (ha2.mono hb1.size)
      clear x0 x1 x2 x3 x4 x5 x6 x7
      have hcc := HC.out.below hb2
      have x0 := hcc.head; have x1 := hcc.tail.head; have x2 := hcc.tail.tail.head; have x3 := hcc.tail.tail.tail.head; have x4 := hcc.tail.tail.tail.tail.head; have x5 := hcc.tail.tail.tail.tail.tail.head; have x6 := hcc.tail.tail.tail.tail.tail.tail.head; have x7 := hcc.tail.tail.tail.tail.tail.tail.tail.head
      clear hcc
      go_wp2_with fail
      go_ret
      exact ⟨by rw [rteE, E_p.out, E_h.out]; rfl, hb0.trans (hb2.mono hb0.size)⟩
    · have E_h := Lib.hid e_h
      have B_h := K_h.out
      rw [e_h] at B_h
      have B_h := Lib.hid B_h
      clear e_h
      rcases (Bool.eq_false_or_eq_true (pathB pre)).symm with e_t | e_t
      · have E_t := Lib.hid e_t
        have B_t := K_t.out
        rw [e_t] at B_t
        have B_t := Lib.hid B_t
        clear e_t
        have y := HC.out.below (Below.refl _ _)
        have x0 := y.head; have x1 := y.tail.head; have x2 := y.tail.tail.head; have x3 := y.tail.tail.tail.head; have x4 := y.tail.tail.tail.tail.head; have x5 := y.tail.tail.tail.tail.tail.head; have x6 := y.tail.tail.tail.tail.tail.tail.head; have x7 := y.tail.tail.tail.tail.tail.tail.tail.head
        clear y
        go_enter Tryz.func52, Tryz.ntmps52
        go_wp2_with fail
        rw [← HW.out]
        refine (B_p.out _ (Below.refl w0.heap.size w0)).mono ?_; rintro e w1 ⟨rfl, ha1⟩
        have hb1 := (Below.refl w0.heap.size w0).trans (ha1.mono (Below.refl w0.heap.size w0).size)
        clear x0 x1 x2 x3 x4 x5 x6 x7
        have hcc := HC.out.below hb1
        have x0 := hcc.head; have x1 := hcc.tail.head; have x2 := hcc.tail.tail.head; have x3 := hcc.tail.tail.tail.head; have x4 := hcc.tail.tail.tail.tail.head; have x5 := hcc.tail.tail.tail.tail.tail.head; have x6 := hcc.tail.tail.tail.tail.tail.tail.head; have x7 := hcc.tail.tail.tail.tail.tail.tail.tail.head
        clear hcc
        go_wp2_with fail
        refine (B_h.out _ hb1).mono ?_; rintro e w2 ⟨rfl, ha2⟩
        have hb2 := hb1.trans (ha2.mono hb1.size)
        clear x0 x1 x2 x3 x4 x5 x6 x7
        have hcc := HC.out.below hb2
        have x0 := hcc.head; have x1 := hcc.tail.head; have x2 := hcc.tail.tail.head; have x3 := hcc.tail.tail.tail.head; have x4 := hcc.tail.tail.tail.tail.head; have x5 := hcc.tail.tail.tail.tail.tail.head; have x6 := hcc.tail.tail.tail.tail.tail.tail.head; have x7 := hcc.tail.tail.tail.tail.tail.tail.tail.head
        clear hcc
        go_wp2_with fail
        refine (B_t.out _ hb2).mono ?_; rintro e w3 ⟨rfl, ha3⟩
        have hb3 := hb2.trans (ha3.mono hb2.size)
        clear x0 x1 x2 x3 x4 x5 x6 x7
        have hcc := HC.out.below hb3
        have x0 := hcc.head; have x1 := hcc.tail.head; have x2 := hcc.tail.tail.head; have x3 := hcc.tail.tail.tail.head; have x4 := hcc.tail.tail.tail.tail.head; have x5 := hcc.tail.tail.tail.tail.tail.head; have x6 := hcc.tail.tail.tail.tail.tail.tail.head; have x7 := hcc.tail.tail.tail.tail.tail.tail.tail.head
        clear hcc
        go_wp2_with fail
        go_ret
        exact ⟨by rw [rteE, E_p.out, E_h.out, E_t.out]; rfl, hb0.trans (hb3.mono hb0.size)⟩
      · have E_t := Lib.hid e_t
        have B_t := K_t.out
        rw [e_t] at B_t
        have B_t := Lib.hid B_t
        clear e_t
        rcases (Bool.eq_false_or_eq_true (labB nw wk)).symm with e_w | e_w
        · have E_w := Lib.hid e_w
          have B_w := K_w.out
          rw [e_w] at B_w
          have B_w := Lib.hid B_w
          clear e_w
          have y := HC.out.below (Below.refl _ _)
          have x0 := y.head; have x1 := y.tail.head; have x2 := y.tail.tail.head; have x3 := y.tail.tail.tail.head; have x4 := y.tail.tail.tail.tail.head; have x5 := y.tail.tail.tail.tail.tail.head; have x6 := y.tail.tail.tail.tail.tail.tail.head; have x7 := y.tail.tail.tail.tail.tail.tail.tail.head
          clear y
          go_enter Tryz.func52, Tryz.ntmps52
          go_wp2_with fail
          rw [← HW.out]
          refine (B_p.out _ (Below.refl w0.heap.size w0)).mono ?_; rintro e w1 ⟨rfl, ha1⟩
          have hb1 := (Below.refl w0.heap.size w0).trans (ha1.mono (Below.refl w0.heap.size w0).size)
          clear x0 x1 x2 x3 x4 x5 x6 x7
          have hcc := HC.out.below hb1
          have x0 := hcc.head; have x1 := hcc.tail.head; have x2 := hcc.tail.tail.head; have x3 := hcc.tail.tail.tail.head; have x4 := hcc.tail.tail.tail.tail.head; have x5 := hcc.tail.tail.tail.tail.tail.head; have x6 := hcc.tail.tail.tail.tail.tail.tail.head; have x7 := hcc.tail.tail.tail.tail.tail.tail.tail.head
          clear hcc
          go_wp2_with fail
          refine (B_h.out _ hb1).mono ?_; rintro e w2 ⟨rfl, ha2⟩
          have hb2 := hb1.trans (ha2.mono hb1.size)
          clear x0 x1 x2 x3 x4 x5 x6 x7
          have hcc := HC.out.below hb2
          have x0 := hcc.head; have x1 := hcc.tail.head; have x2 := hcc.tail.tail.head; have x3 := hcc.tail.tail.tail.head; have x4 := hcc.tail.tail.tail.tail.head; have x5 := hcc.tail.tail.tail.tail.tail.head; have x6 := hcc.tail.tail.tail.tail.tail.tail.head; have x7 := hcc.tail.tail.tail.tail.tail.tail.tail.head
          clear hcc
          go_wp2_with fail
          refine (B_t.out _ hb2).mono ?_; rintro e w3 ⟨rfl, ha3⟩
          have hb3 := hb2.trans (ha3.mono hb2.size)
          clear x0 x1 x2 x3 x4 x5 x6 x7
          have hcc := HC.out.below hb3
          have x0 := hcc.head; have x1 := hcc.tail.head; have x2 := hcc.tail.tail.head; have x3 := hcc.tail.tail.tail.head; have x4 := hcc.tail.tail.tail.tail.head; have x5 := hcc.tail.tail.tail.tail.tail.head; have x6 := hcc.tail.tail.tail.tail.tail.tail.head; have x7 := hcc.tail.tail.tail.tail.tail.tail.tail.head
          clear hcc
          go_wp2_with fail
          refine (B_w.out _ hb3).mono ?_; rintro e ww ⟨rfl, rfl⟩
          go_wp2_with fail
          go_ret
          exact ⟨by rw [rteE, E_p.out, E_h.out, E_t.out, E_w.out]; rfl, hb0.trans (hb3.mono hb0.size)⟩
        · have E_w := Lib.hid e_w
          have B_w := K_w.out
          rw [e_w] at B_w
          have B_w := Lib.hid B_w
          clear e_w
          rcases (Bool.eq_false_or_eq_true (decide (1 ≤ wt))).symm with e_q1 | e_q1
          · have E_q1 := Lib.hid e_q1
            have zq1 : ¬ (1 : Int) ≤ wt := of_decide_eq_false e_q1
            clear e_q1
            have y := HC.out.below (Below.refl _ _)
            have x0 := y.head; have x1 := y.tail.head; have x2 := y.tail.tail.head; have x3 := y.tail.tail.tail.head; have x4 := y.tail.tail.tail.tail.head; have x5 := y.tail.tail.tail.tail.tail.head; have x6 := y.tail.tail.tail.tail.tail.tail.head; have x7 := y.tail.tail.tail.tail.tail.tail.tail.head
            clear y
            go_enter Tryz.func52, Tryz.ntmps52
            go_wp2_with fail
            rw [← HW.out]
            refine (B_p.out _ (Below.refl w0.heap.size w0)).mono ?_; rintro e w1 ⟨rfl, ha1⟩
            have hb1 := (Below.refl w0.heap.size w0).trans (ha1.mono (Below.refl w0.heap.size w0).size)
            clear x0 x1 x2 x3 x4 x5 x6 x7
            have hcc := HC.out.below hb1
            have x0 := hcc.head; have x1 := hcc.tail.head; have x2 := hcc.tail.tail.head; have x3 := hcc.tail.tail.tail.head; have x4 := hcc.tail.tail.tail.tail.head; have x5 := hcc.tail.tail.tail.tail.tail.head; have x6 := hcc.tail.tail.tail.tail.tail.tail.head; have x7 := hcc.tail.tail.tail.tail.tail.tail.tail.head
            clear hcc
            go_wp2_with fail
            refine (B_h.out _ hb1).mono ?_; rintro e w2 ⟨rfl, ha2⟩
            have hb2 := hb1.trans (ha2.mono hb1.size)
            clear x0 x1 x2 x3 x4 x5 x6 x7
            have hcc := HC.out.below hb2
            have x0 := hcc.head; have x1 := hcc.tail.head; have x2 := hcc.tail.tail.head; have x3 := hcc.tail.tail.tail.head; have x4 := hcc.tail.tail.tail.tail.head; have x5 := hcc.tail.tail.tail.tail.tail.head; have x6 := hcc.tail.tail.tail.tail.tail.tail.head; have x7 := hcc.tail.tail.tail.tail.tail.tail.tail.head
            clear hcc
            go_wp2_with fail
            refine (B_t.out _ hb2).mono ?_; rintro e w3 ⟨rfl, ha3⟩
            have hb3 := hb2.trans (ha3.mono hb2.size)
            clear x0 x1 x2 x3 x4 x5 x6 x7
            have hcc := HC.out.below hb3
            have x0 := hcc.head; have x1 := hcc.tail.head; have x2 := hcc.tail.tail.head; have x3 := hcc.tail.tail.tail.head; have x4 := hcc.tail.tail.tail.tail.head; have x5 := hcc.tail.tail.tail.tail.tail.head; have x6 := hcc.tail.tail.tail.tail.tail.tail.head; have x7 := hcc.tail.tail.tail.tail.tail.tail.tail.head
            clear hcc
            go_wp2_with fail
            refine (B_w.out _ hb3).mono ?_; rintro e ww ⟨rfl, rfl⟩
            go_wp2_with fail
            go_ret
            exact ⟨by rw [rteE, E_p.out, E_h.out, E_t.out, E_w.out, E_q1.out]; rfl, hb0.trans (hb3.mono hb0.size)⟩
          · have E_q1 := Lib.hid e_q1
            have zq1 : (1 : Int) ≤ wt := of_decide_eq_true e_q1
            clear e_q1
            rcases (Bool.eq_false_or_eq_true (decide (wt ≤ 100))).symm with e_q2 | e_q2
            · have E_q2 := Lib.hid e_q2
              have zq2 : ¬ wt ≤ 100 := of_decide_eq_false e_q2
              clear e_q2
              have y := HC.out.below (Below.refl _ _)
              have x0 := y.head; have x1 := y.tail.head; have x2 := y.tail.tail.head; have x3 := y.tail.tail.tail.head; have x4 := y.tail.tail.tail.tail.head; have x5 := y.tail.tail.tail.tail.tail.head; have x6 := y.tail.tail.tail.tail.tail.tail.head; have x7 := y.tail.tail.tail.tail.tail.tail.tail.head
              clear y
              go_enter Tryz.func52, Tryz.ntmps52
              go_wp2_with fail
              rw [← HW.out]
              refine (B_p.out _ (Below.refl w0.heap.size w0)).mono ?_; rintro e w1 ⟨rfl, ha1⟩
              have hb1 := (Below.refl w0.heap.size w0).trans (ha1.mono (Below.refl w0.heap.size w0).size)
              clear x0 x1 x2 x3 x4 x5 x6 x7
              have hcc := HC.out.below hb1
              have x0 := hcc.head; have x1 := hcc.tail.head; have x2 := hcc.tail.tail.head; have x3 := hcc.tail.tail.tail.head; have x4 := hcc.tail.tail.tail.tail.head; have x5 := hcc.tail.tail.tail.tail.tail.head; have x6 := hcc.tail.tail.tail.tail.tail.tail.head; have x7 := hcc.tail.tail.tail.tail.tail.tail.tail.head
              clear hcc
              go_wp2_with fail
              refine (B_h.out _ hb1).mono ?_; rintro e w2 ⟨rfl, ha2⟩
              have hb2 := hb1.trans (ha2.mono hb1.size)
              clear x0 x1 x2 x3 x4 x5 x6 x7
              have hcc := HC.out.below hb2
              have x0 := hcc.head; have x1 := hcc.tail.head; have x2 := hcc.tail.tail.head; have x3 := hcc.tail.tail.tail.head; have x4 := hcc.tail.tail.tail.tail.head; have x5 := hcc.tail.tail.tail.tail.tail.head; have x6 := hcc.tail.tail.tail.tail.tail.tail.head; have x7 := hcc.tail.tail.tail.tail.tail.tail.tail.head
              clear hcc
              go_wp2_with fail
              refine (B_t.out _ hb2).mono ?_; rintro e w3 ⟨rfl, ha3⟩
              have hb3 := hb2.trans (ha3.mono hb2.size)
              clear x0 x1 x2 x3 x4 x5 x6 x7
              have hcc := HC.out.below hb3
              have x0 := hcc.head; have x1 := hcc.tail.head; have x2 := hcc.tail.tail.head; have x3 := hcc.tail.tail.tail.head; have x4 := hcc.tail.tail.tail.tail.head; have x5 := hcc.tail.tail.tail.tail.tail.head; have x6 := hcc.tail.tail.tail.tail.tail.tail.head; have x7 := hcc.tail.tail.tail.tail.tail.tail.tail.head
              clear hcc
              go_wp2_with fail
              refine (B_w.out _ hb3).mono ?_; rintro e ww ⟨rfl, rfl⟩
              go_wp2_with fail
              go_ret
              exact ⟨by rw [rteE, E_p.out, E_h.out, E_t.out, E_w.out, E_q1.out, E_q2.out]; rfl, hb0.trans (hb3.mono hb0.size)⟩
            · have E_q2 := Lib.hid e_q2
              have zq2 : wt ≤ 100 := of_decide_eq_true e_q2
              clear e_q2
              rcases Bool.eq_false_or_eq_true (anyx (fun k => sameR (ks k) (ks i)) i) with e_d | e_d
              · have E_d := Lib.hid e_d
                have B_d := K_d.out
                rw [e_d] at B_d
                have B_d := Lib.hid B_d
                clear e_d
                have y := HC.out.below (Below.refl _ _)
                have x0 := y.head; have x1 := y.tail.head; have x2 := y.tail.tail.head; have x3 := y.tail.tail.tail.head; have x4 := y.tail.tail.tail.tail.head; have x5 := y.tail.tail.tail.tail.tail.head; have x6 := y.tail.tail.tail.tail.tail.tail.head; have x7 := y.tail.tail.tail.tail.tail.tail.tail.head
                clear y
                go_enter Tryz.func52, Tryz.ntmps52
                go_wp2_with fail
                rw [← HW.out]
                refine (B_p.out _ (Below.refl w0.heap.size w0)).mono ?_; rintro e w1 ⟨rfl, ha1⟩
                have hb1 := (Below.refl w0.heap.size w0).trans (ha1.mono (Below.refl w0.heap.size w0).size)
                clear x0 x1 x2 x3 x4 x5 x6 x7
                have hcc := HC.out.below hb1
                have x0 := hcc.head; have x1 := hcc.tail.head; have x2 := hcc.tail.tail.head; have x3 := hcc.tail.tail.tail.head; have x4 := hcc.tail.tail.tail.tail.head; have x5 := hcc.tail.tail.tail.tail.tail.head; have x6 := hcc.tail.tail.tail.tail.tail.tail.head; have x7 := hcc.tail.tail.tail.tail.tail.tail.tail.head
                clear hcc
                go_wp2_with fail
                refine (B_h.out _ hb1).mono ?_; rintro e w2 ⟨rfl, ha2⟩
                have hb2 := hb1.trans (ha2.mono hb1.size)
                clear x0 x1 x2 x3 x4 x5 x6 x7
                have hcc := HC.out.below hb2
                have x0 := hcc.head; have x1 := hcc.tail.head; have x2 := hcc.tail.tail.head; have x3 := hcc.tail.tail.tail.head; have x4 := hcc.tail.tail.tail.tail.head; have x5 := hcc.tail.tail.tail.tail.tail.head; have x6 := hcc.tail.tail.tail.tail.tail.tail.head; have x7 := hcc.tail.tail.tail.tail.tail.tail.tail.head
                clear hcc
                go_wp2_with fail
                refine (B_t.out _ hb2).mono ?_; rintro e w3 ⟨rfl, ha3⟩
                have hb3 := hb2.trans (ha3.mono hb2.size)
                clear x0 x1 x2 x3 x4 x5 x6 x7
                have hcc := HC.out.below hb3
                have x0 := hcc.head; have x1 := hcc.tail.head; have x2 := hcc.tail.tail.head; have x3 := hcc.tail.tail.tail.head; have x4 := hcc.tail.tail.tail.tail.head; have x5 := hcc.tail.tail.tail.tail.tail.head; have x6 := hcc.tail.tail.tail.tail.tail.tail.head; have x7 := hcc.tail.tail.tail.tail.tail.tail.tail.head
                clear hcc
                go_wp2_with fail
                refine (B_w.out _ hb3).mono ?_; rintro e ww ⟨rfl, rfl⟩
                go_wp2_with fail
                refine (B_d.out _ hb3).mono ?_; rintro e w4 ⟨rfl, ha4⟩
                have hb4 := hb3.trans (ha4.mono hb3.size)
                clear x0 x1 x2 x3 x4 x5 x6 x7
                have hcc := HC.out.below hb4
                have x0 := hcc.head; have x1 := hcc.tail.head; have x2 := hcc.tail.tail.head; have x3 := hcc.tail.tail.tail.head; have x4 := hcc.tail.tail.tail.tail.head; have x5 := hcc.tail.tail.tail.tail.tail.head; have x6 := hcc.tail.tail.tail.tail.tail.tail.head; have x7 := hcc.tail.tail.tail.tail.tail.tail.tail.head
                clear hcc
                go_wp2_with fail
                go_ret
                exact ⟨by rw [rteE, E_p.out, E_h.out, E_t.out, E_w.out, E_q1.out, E_q2.out, E_d.out]; rfl, hb0.trans (hb4.mono hb0.size)⟩
              · have E_d := Lib.hid e_d
                have B_d := K_d.out
                rw [e_d] at B_d
                have B_d := Lib.hid B_d
                clear e_d
                have y := HC.out.below (Below.refl _ _)
                have x0 := y.head; have x1 := y.tail.head; have x2 := y.tail.tail.head; have x3 := y.tail.tail.tail.head; have x4 := y.tail.tail.tail.tail.head; have x5 := y.tail.tail.tail.tail.tail.head; have x6 := y.tail.tail.tail.tail.tail.tail.head; have x7 := y.tail.tail.tail.tail.tail.tail.tail.head
                clear y
                go_enter Tryz.func52, Tryz.ntmps52
                go_wp2_with fail
                rw [← HW.out]
                refine (B_p.out _ (Below.refl w0.heap.size w0)).mono ?_; rintro e w1 ⟨rfl, ha1⟩
                have hb1 := (Below.refl w0.heap.size w0).trans (ha1.mono (Below.refl w0.heap.size w0).size)
                clear x0 x1 x2 x3 x4 x5 x6 x7
                have hcc := HC.out.below hb1
                have x0 := hcc.head; have x1 := hcc.tail.head; have x2 := hcc.tail.tail.head; have x3 := hcc.tail.tail.tail.head; have x4 := hcc.tail.tail.tail.tail.head; have x5 := hcc.tail.tail.tail.tail.tail.head; have x6 := hcc.tail.tail.tail.tail.tail.tail.head; have x7 := hcc.tail.tail.tail.tail.tail.tail.tail.head
                clear hcc
                go_wp2_with fail
                refine (B_h.out _ hb1).mono ?_; rintro e w2 ⟨rfl, ha2⟩
                have hb2 := hb1.trans (ha2.mono hb1.size)
                clear x0 x1 x2 x3 x4 x5 x6 x7
                have hcc := HC.out.below hb2
                have x0 := hcc.head; have x1 := hcc.tail.head; have x2 := hcc.tail.tail.head; have x3 := hcc.tail.tail.tail.head; have x4 := hcc.tail.tail.tail.tail.head; have x5 := hcc.tail.tail.tail.tail.tail.head; have x6 := hcc.tail.tail.tail.tail.tail.tail.head; have x7 := hcc.tail.tail.tail.tail.tail.tail.tail.head
                clear hcc
                go_wp2_with fail
                refine (B_t.out _ hb2).mono ?_; rintro e w3 ⟨rfl, ha3⟩
                have hb3 := hb2.trans (ha3.mono hb2.size)
                clear x0 x1 x2 x3 x4 x5 x6 x7
                have hcc := HC.out.below hb3
                have x0 := hcc.head; have x1 := hcc.tail.head; have x2 := hcc.tail.tail.head; have x3 := hcc.tail.tail.tail.head; have x4 := hcc.tail.tail.tail.tail.head; have x5 := hcc.tail.tail.tail.tail.tail.head; have x6 := hcc.tail.tail.tail.tail.tail.tail.head; have x7 := hcc.tail.tail.tail.tail.tail.tail.tail.head
                clear hcc
                go_wp2_with fail
                refine (B_w.out _ hb3).mono ?_; rintro e ww ⟨rfl, rfl⟩
                go_wp2_with fail
                refine (B_d.out _ hb3).mono ?_; rintro e w4 ⟨rfl, ha4⟩
                have hb4 := hb3.trans (ha4.mono hb3.size)
                clear x0 x1 x2 x3 x4 x5 x6 x7
                have hcc := HC.out.below hb4
                have x0 := hcc.head; have x1 := hcc.tail.head; have x2 := hcc.tail.tail.head; have x3 := hcc.tail.tail.tail.head; have x4 := hcc.tail.tail.tail.tail.head; have x5 := hcc.tail.tail.tail.tail.tail.head; have x6 := hcc.tail.tail.tail.tail.tail.tail.head; have x7 := hcc.tail.tail.tail.tail.tail.tail.tail.head
                clear hcc
                go_wp2_with fail
                go_ret
                exact ⟨by rw [rteE, E_p.out, E_h.out, E_t.out, E_w.out, E_q1.out, E_q2.out, E_d.out]; rfl, hb0.trans (hb4.mono hb0.size)⟩
end Go.Proofs.YteblahoijolegaaGreatDoor
end
