import Derived.Test.YteblahoijolegaaGreatDoorM10
import Derived.Test.YteblahoijolegaaGreatDoorM11
import Derived.Test.YteblahoijolegaaGreatDoorM12
import Derived.BigQuiet
import Derived.BigRegion
import Derived.ChangeAlike
import Derived.Deep.DeepCutAuto
import Derived.Deep.Light
import Derived.Deep.LoopGhost
import Derived.Deep.MidRow
import Derived.Deep.QuietTactic
import Derived.Deep.RegionHeld3
import Derived.Deep.WholeRow
import Derived.Defers
import Derived.Great.Walk
import Derived.Laws.BitsAllLaws
import Derived.Laws.CopyOwn
import Derived.Laws.EntriesVeiled
import Derived.Laws.LoneSync
import Derived.Laws.Pointers
import Derived.Laws.StructEq
import Derived.Lib.Hide
import Derived.Lib.LazyBuf
import Derived.Lib.SliceRun
import Derived.LoopIn
import Derived.LoopNIn
import Derived.Maps.AppendAt
import Derived.OwnWalkIn
import Derived.RangeFuncBox
import Derived.RangeFuncKeeps
import Derived.RangeFuncLeaves
import Derived.RangeFuncSeq
import Derived.RegionCalls
import Derived.RegionIn
import Derived.RegionTactic
import Derived.Shelf.Abstract
import Derived.TacticsInMore
import Derived.Test.YteblahoijolegaaGreatDoorShelf
import Derived.WalkKit
import Derived.WalkLawsBesides
import Derived.WalkSpells
import Derived.WideLaws
section
set_option linter.all false
namespace Go.Proofs.YteblahoijolegaaGreatDoor
open Go.RowKit

theorem LatAt.below {w w' : World} {l b bu bd n : Nat} {up down : List Nat} {hi : Int} (h : LatAt w l b bu bd n up down hi) (hb : Below w.heap.size w w') : LatAt w' l b bu bd n up down hi := by
  obtain ⟨nma, cpn, jf, mf, lo, h1, h2⟩ := h.blk
  exact ⟨h.ord.kept (kall hb) trivial trivial trivial, nma, cpn, jf, mf, lo, h1.below hb, h2⟩
def srcE (nl : Nat) (dup : Bool) (name : ByteArray) (l c : Int) : Int := if !nameB name || dup then 31 else if !labB nl l || !labB nl c then 9 else 0
set_option maxHeartbeats 2000000 in
set_option maxRecDepth 20000 in
theorem judge_source {w : World} {bj bp a off n cp nl cpL : Nat} {aoL : Option Addr} {c : Nat → Nat → Value} {ks : Nat → ByteArray}
    (hJ : Cells w [(bj, 0, .pointer (some ⟨bp, 0, none⟩)), (bp, 0, .slice aoL nl cpL), (bp, 2, .slice (some ⟨a, off, none⟩) n cp)]) (hs : SlAt w (some ⟨a, off, none⟩) n 3 c) (hn : n ≤ 100000) (hcp : n ≤ cp) (hks : ∀ k, k < n → c k 0 = .string (ks k)) (i : Nat) (hi : i < n) (name : ByteArray) (l cl : Int) :
    Calls Tryz.prog 43 #[.pointer (some ⟨bj, 0, none⟩), .int .i64 i, .agg #[.string name, .int .i64 l, .int .i64 cl]] w fun e w' => e = .returned (.int .i64 (srcE nl (anyx (fun k => sameS (ks k) (ks i)) i) name l cl)) ∧ Below w.heap.size w w' := by
  obtain ⟨w0, hw0⟩ : ∃ w0 : World, w0 = w.alloc (.cells #[.string name, .int .i64 l, .int .i64 cl] 96) := ⟨_, rfl⟩
  have hb0 : Below w.heap.size w w0 := by rw [hw0]; exact (Below.refl _ w).alloc (Nat.le_refl _) _
  have hn0 : w0.heap[w.heap.size]? = some (.cells #[.string name, .int .i64 l, .int .i64 cl] 96) := by rw [hw0]; exact heap_new w _
  have hc0 : Cells w0 [(bj, 0, .pointer (some ⟨bp, 0, none⟩)), (bp, 0, .slice aoL nl cpL), (bp, 2, .slice (some ⟨a, off, none⟩) n cp), (w.heap.size, 0, .string name), (w.heap.size, 1, .int .i64 l), (w.heap.size, 2, .int .i64 cl)] := .cons (hJ.below hb0).head (.cons (hJ.below hb0).tail.head (.cons (hJ.below hb0).tail.tail.head (.cons (cell_of (o := 0) hn0) (.cons (cell_of (o := 1) hn0) (.cons (cell_of (o := 2) hn0) (.nil _))))))
  have hs0 := hs.below hb0
  have HC := Lib.hid hc0; clear hc0 hJ
  have HW := Lib.hid hw0; clear hw0 hn0
  have K_n := Lib.hid (show ∀ W, Below w0.heap.size w0 W → Calls Tryz.prog 84 #[.string name] W fun e w' => e = .returned (.int .i64 (if nameB name = true then 0 else 31)) ∧ Below W.heap.size W w' from fun W _ => text_Name name W); 
  have K_d := Lib.hid (show ∀ W, Below w0.heap.size w0 W → Calls Tryz.prog 110 #[.slice (some ⟨a, off, none⟩) n cp, .int .i64 i, .func (.func 111) #[] #[]] W fun e w' => e = .returned (.bool (anyx (fun k => sameS (ks k) (ks i)) i)) ∧ Below W.heap.size W w' from fun W hW => twice_source a off n cp c ks 111 (enters_of Tryz.func111 (by kernel_rfl) rfl) W i hi hn hcp (hs0.below hW) (fun k hk => by rw [hks k hk]; exact key_source _ _ _)); 
  have K_l := Lib.hid (show ∀ W, Below w0.heap.size w0 W → Calls Tryz.prog 112 #[.pointer (some ⟨bj, 0, none⟩), .int .i64 l] W fun e w' => e = .returned (.bool (labB nl l)) ∧ W = w' from fun W hW => judge_label l (HC.out.below hW).head (HC.out.below hW).tail.head); 
  have K_c := Lib.hid (show ∀ W, Below w0.heap.size w0 W → Calls Tryz.prog 112 #[.pointer (some ⟨bj, 0, none⟩), .int .i64 cl] W fun e w' => e = .returned (.bool (labB nl cl)) ∧ W = w' from fun W hW => judge_label cl (HC.out.below hW).head (HC.out.below hW).tail.head); 
  clear hs hs0 hks
  rcases (Bool.eq_false_or_eq_true (nameB name)).symm with e_n | e_n
  · have E_n := Lib.hid e_n
    have B_n := K_n.out
    rw [e_n] at B_n
    have B_n := Lib.hid B_n
    clear e_n
    have y := HC.out.below (Below.refl _ _)
    have x0 := y.head; have x1 := y.tail.head; have x2 := y.tail.tail.head; have x3 := y.tail.tail.tail.head; have x4 := y.tail.tail.tail.tail.head; have x5 := y.tail.tail.tail.tail.tail.head
    clear y
    go_enter Tryz.func43, Tryz.ntmps43
    go_wp2_with fail
    rw [← HW.out]
    refine (B_n.out _ (Below.refl w0.heap.size w0)).mono ?_; rintro e w1 ⟨rfl, ha1⟩
    have hb1 := (Below.refl w0.heap.size w0).trans (ha1.mono (Below.refl w0.heap.size w0).size)
    clear x0 x1 x2 x3 x4 x5
    have hcc := HC.out.below hb1
    have x0 := hcc.head; have x1 := hcc.tail.head; have x2 := hcc.tail.tail.head; have x3 := hcc.tail.tail.tail.head; have x4 := hcc.tail.tail.tail.tail.head; have x5 := hcc.tail.tail.tail.tail.tail.head
    clear hcc
    go_wp2_with fail
    go_ret
    exact ⟨by rw [srcE, E_n.out]; rfl, hb0.trans (hb1.mono hb0.size)⟩
  · have E_n := Lib.hid e_n
    have B_n := K_n.out
    rw [e_n] at B_n
    have B_n := Lib.hid B_n
    clear e_n
    rcases Bool.eq_false_or_eq_true (anyx (fun k => sameS (ks k) (ks i)) i) with e_d | e_d
    · have E_d := Lib.hid e_d
      have B_d := K_d.out
      rw [e_d] at B_d
      have B_d := Lib.hid B_d
      clear e_d
      have y := HC.out.below (Below.refl _ _)
      have x0 := y.head; have x1 := y.tail.head; have x2 := y.tail.tail.head; have x3 := y.tail.tail.tail.head; have x4 := y.tail.tail.tail.tail.head; have x5 := y.tail.tail.tail.tail.tail.head
      clear y
      go_enter Tryz.func43, Tryz.ntmps43
      go_wp2_with fail
      rw [← HW.out]
      refine (B_n.out _ (Below.refl w0.heap.size w0)).mono ?_; rintro e w1 ⟨rfl, ha1⟩
      have hb1 := (Below.refl w0.heap.size w0).trans (ha1.mono (Below.refl w0.heap.size w0).size)
      clear x0 x1 x2 x3 x4 x5
      have hcc := HC.out.below hb1
      have x0 := hcc.head; have x1 := hcc.tail.head; have x2 := hcc.tail.tail.head; have x3 := hcc.tail.tail.tail.head; have x4 := hcc.tail.tail.tail.tail.head; have x5 := hcc.tail.tail.tail.tail.tail.head
      clear hcc
      go_wp2_with fail
      refine (B_d.out _ hb1).mono ?_; rintro e w2 ⟨rfl, ha2⟩
      have hb2 := hb1.trans (ha2.mono hb1.size)
      clear x0 x1 x2 x3 x4 x5
      have hcc := HC.out.below hb2
      have x0 := hcc.head; have x1 := hcc.tail.head; have x2 := hcc.tail.tail.head; have x3 := hcc.tail.tail.tail.head; have x4 := hcc.tail.tail.tail.tail.head; have x5 := hcc.tail.tail.tail.tail.tail.head
      clear hcc
      go_wp2_with fail
      go_ret
      exact ⟨by rw [srcE, E_n.out, E_d.out]; rfl, hb0.trans (hb2.mono hb0.size)⟩
    · have E_d := Lib.hid e_d
      have B_d := K_d.out
      rw [e_d] at B_d
      have B_d := Lib.hid B_d
      clear e_d
      rcases (Bool.eq_false_or_eq_true (labB nl l)).symm with e_l | e_l
      · have E_l := Lib.hid e_l
        have B_l := K_l.out
        rw [e_l] at B_l
        have B_l := Lib.hid B_l
        clear e_l
        have y := HC.out.below (Below.refl _ _)
        have x0 := y.head; have x1 := y.tail.head; have x2 := y.tail.tail.head; have x3 := y.tail.tail.tail.head; have x4 := y.tail.tail.tail.tail.head; have x5 := y.tail.tail.tail.tail.tail.head
        clear y
        go_enter Tryz.func43, Tryz.ntmps43
        go_wp2_with fail
        rw [← HW.out]
        refine (B_n.out _ (Below.refl w0.heap.size w0)).mono ?_; rintro e w1 ⟨rfl, ha1⟩
        have hb1 := (Below.refl w0.heap.size w0).trans (ha1.mono (Below.refl w0.heap.size w0).size)
        clear x0 x1 x2 x3 x4 x5
        have hcc := HC.out.below hb1
        have x0 := hcc.head; have x1 := hcc.tail.head; have x2 := hcc.tail.tail.head; have x3 := hcc.tail.tail.tail.head; have x4 := hcc.tail.tail.tail.tail.head; have x5 := hcc.tail.tail.tail.tail.tail.head
        clear hcc
        go_wp2_with fail
        refine (B_d.out _ hb1).mono ?_; rintro e w2 ⟨rfl, ha2⟩
        have hb2 := hb1.trans (ha2.mono hb1.size)
        clear x0 x1 x2 x3 x4 x5
        have hcc := HC.out.below hb2
        have x0 := hcc.head; have x1 := hcc.tail.head; have x2 := hcc.tail.tail.head; have x3 := hcc.tail.tail.tail.head; have x4 := hcc.tail.tail.tail.tail.head; have x5 := hcc.tail.tail.tail.tail.tail.head
        clear hcc
        go_wp2_with fail
        refine (B_l.out _ hb2).mono ?_; rintro e ww ⟨rfl, rfl⟩
        go_wp2_with fail
        go_ret
        exact ⟨by rw [srcE, E_n.out, E_d.out, E_l.out]; rfl, hb0.trans (hb2.mono hb0.size)⟩
      · have E_l := Lib.hid e_l
        have B_l := K_l.out
        rw [e_l] at B_l
        have B_l := Lib.hid B_l
        clear e_l
        rcases (Bool.eq_false_or_eq_true (labB nl cl)).symm with e_c | e_c
        · have E_c := Lib.hid e_c
          have B_c := K_c.out
          rw [e_c] at B_c
          have B_c := Lib.hid B_c
          clear e_c
          have y := HC.out.below (Below.refl _ _)
          have x0 := y.head; have x1 := y.tail.head; have x2 := y.tail.tail.head; have x3 := y.tail.tail.tail.head; have x4 := y.tail.tail.tail.tail.head; have x5 := y.tail.tail.tail.tail.tail.head
          clear y
          go_enter Tryz.func43, Tryz.ntmps43
          go_wp2_with fail
          rw [← HW.out]
          refine (B_n.out _ (Below.refl w0.heap.size w0)).mono ?_; rintro e w1 ⟨rfl, ha1⟩
          have hb1 := (Below.refl w0.heap.size w0).trans (ha1.mono (Below.refl w0.heap.size w0).size)
          clear x0 x1 x2 x3 x4 x5
          have hcc := HC.out.below hb1
          have x0 := hcc.head; have x1 := hcc.tail.head; have x2 := hcc.tail.tail.head; have x3 := hcc.tail.tail.tail.head; have x4 := hcc.tail.tail.tail.tail.head; have x5 := hcc.tail.tail.tail.tail.tail.head
          clear hcc
          go_wp2_with fail
          refine (B_d.out _ hb1).mono ?_; rintro e w2 ⟨rfl, ha2⟩
          have hb2 := hb1.trans (ha2.mono hb1.size)
          clear x0 x1 x2 x3 x4 x5
          have hcc := HC.out.below hb2
          have x0 := hcc.head; have x1 := hcc.tail.head; have x2 := hcc.tail.tail.head; have x3 := hcc.tail.tail.tail.head; have x4 := hcc.tail.tail.tail.tail.head; have x5 := hcc.tail.tail.tail.tail.tail.head
          clear hcc
          go_wp2_with fail
          refine (B_l.out _ hb2).mono ?_; rintro e ww ⟨rfl, rfl⟩
          go_wp2_with fail
          refine (B_c.out _ hb2).mono ?_; rintro e ww ⟨rfl, rfl⟩
          go_wp2_with fail
          go_ret
          exact ⟨by rw [srcE, E_n.out, E_d.out, E_l.out, E_c.out]; rfl, hb0.trans (hb2.mono hb0.size)⟩
        · have E_c := Lib.hid e_c
          have B_c := K_c.out
          rw [e_c] at B_c
          have B_c := Lib.hid B_c
          clear e_c
          have y := HC.out.below (Below.refl _ _)
          have x0 := y.head; have x1 := y.tail.head; have x2 := y.tail.tail.head; have x3 := y.tail.tail.tail.head; have x4 := y.tail.tail.tail.tail.head; have x5 := y.tail.tail.tail.tail.tail.head
          clear y
          go_enter Tryz.func43, Tryz.ntmps43
          go_wp2_with fail
          rw [← HW.out]
          refine (B_n.out _ (Below.refl w0.heap.size w0)).mono ?_; rintro e w1 ⟨rfl, ha1⟩
          have hb1 := (Below.refl w0.heap.size w0).trans (ha1.mono (Below.refl w0.heap.size w0).size)
          clear x0 x1 x2 x3 x4 x5
          have hcc := HC.out.below hb1
          have x0 := hcc.head; have x1 := hcc.tail.head; have x2 := hcc.tail.tail.head; have x3 := hcc.tail.tail.tail.head; have x4 := hcc.tail.tail.tail.tail.head; have x5 := hcc.tail.tail.tail.tail.tail.head
          clear hcc
          go_wp2_with fail
          refine (B_d.out _ hb1).mono ?_; rintro e w2 ⟨rfl, ha2⟩
          have hb2 := hb1.trans (ha2.mono hb1.size)
          clear x0 x1 x2 x3 x4 x5
          have hcc := HC.out.below hb2
          have x0 := hcc.head; have x1 := hcc.tail.head; have x2 := hcc.tail.tail.head; have x3 := hcc.tail.tail.tail.head; have x4 := hcc.tail.tail.tail.tail.head; have x5 := hcc.tail.tail.tail.tail.tail.head
          clear hcc
          go_wp2_with fail
          refine (B_l.out _ hb2).mono ?_; rintro e ww ⟨rfl, rfl⟩
          go_wp2_with fail
          refine (B_c.out _ hb2).mono ?_; rintro e ww ⟨rfl, rfl⟩
          go_wp2_with fail
          go_ret
          exact ⟨by rw [srcE, E_n.out, E_d.out, E_l.out, E_c.out]; rfl, hb0.trans (hb2.mono hb0.size)⟩
def dstE (nl : Nat) (dup : Bool) (name : ByteArray) (c : Int) : Int := if !plainB name then 60 else if dup then 31 else if !labB nl c then 9 else 0
set_option maxHeartbeats 2000000 in
set_option maxRecDepth 20000 in
theorem judge_dest {w : World} {bj bp a off n cp nl cpL : Nat} {aoL : Option Addr} {c : Nat → Nat → Value} {ks : Nat → ByteArray}
    (hJ : Cells w [(bj, 0, .pointer (some ⟨bp, 0, none⟩)), (bp, 0, .slice aoL nl cpL), (bp, 3, .slice (some ⟨a, off, none⟩) n cp)]) (hs : SlAt w (some ⟨a, off, none⟩) n 2 c) (hn : n ≤ 100000) (hcp : n ≤ cp) (hks : ∀ k, k < n → c k 0 = .string (ks k)) (i : Nat) (hi : i < n) (name : ByteArray) (cl : Int) (hsz : name.size ≤ 9223372036854775807) :
    Calls Tryz.prog 46 #[.pointer (some ⟨bj, 0, none⟩), .int .i64 i, .agg #[.string name, .int .i64 cl]] w fun e w' => e = .returned (.int .i64 (dstE nl (anyx (fun k => sameS (ks k) (ks i)) i) name cl)) ∧ Below w.heap.size w w' := by
  obtain ⟨w0, hw0⟩ : ∃ w0 : World, w0 = w.alloc (.cells #[.string name, .int .i64 cl] 100) := ⟨_, rfl⟩
  have hb0 : Below w.heap.size w w0 := by rw [hw0]; exact (Below.refl _ w).alloc (Nat.le_refl _) _
  have hn0 : w0.heap[w.heap.size]? = some (.cells #[.string name, .int .i64 cl] 100) := by rw [hw0]; exact heap_new w _
  have hc0 : Cells w0 [(bj, 0, .pointer (some ⟨bp, 0, none⟩)), (bp, 0, .slice aoL nl cpL), (bp, 3, .slice (some ⟨a, off, none⟩) n cp), (w.heap.size, 0, .string name), (w.heap.size, 1, .int .i64 cl)] := .cons (hJ.below hb0).head (.cons (hJ.below hb0).tail.head (.cons (hJ.below hb0).tail.tail.head (.cons (cell_of (o := 0) hn0) (.cons (cell_of (o := 1) hn0) (.nil _)))))
  have hs0 := hs.below hb0
  have HC := Lib.hid hc0; clear hc0 hJ
  have HW := Lib.hid hw0; clear hw0 hn0
  have K_p := Lib.hid (show ∀ W, Below w0.heap.size w0 W → Calls Tryz.prog 113 #[.string name] W fun e w' => e = .returned (.int .i64 (if plainB name = true then 0 else 60)) ∧ Below W.heap.size W w' from fun W _ => host_Plain name W hsz); 
  have K_d := Lib.hid (show ∀ W, Below w0.heap.size w0 W → Calls Tryz.prog 114 #[.slice (some ⟨a, off, none⟩) n cp, .int .i64 i, .func (.func 115) #[] #[]] W fun e w' => e = .returned (.bool (anyx (fun k => sameS (ks k) (ks i)) i)) ∧ Below W.heap.size W w' from fun W hW => twice_dest a off n cp c ks 115 (enters_of Tryz.func115 (by kernel_rfl) rfl) W i hi hn hcp (hs0.below hW) (fun k hk => by rw [hks k hk]; exact key_dest _ _)); 
  have K_c := Lib.hid (show ∀ W, Below w0.heap.size w0 W → Calls Tryz.prog 112 #[.pointer (some ⟨bj, 0, none⟩), .int .i64 cl] W fun e w' => e = .returned (.bool (labB nl cl)) ∧ W = w' from fun W hW => judge_label cl (HC.out.below hW).head (HC.out.below hW).tail.head); 
  clear hs hs0 hks
  rcases (Bool.eq_false_or_eq_true (plainB name)).symm with e_p | e_p
  · have E_p := Lib.hid e_p
    have B_p := K_p.out
    rw [e_p] at B_p
    have B_p := Lib.hid B_p
    clear e_p
    have y := HC.out.below (Below.refl _ _)
    have x0 := y.head; have x1 := y.tail.head; have x2 := y.tail.tail.head; have x3 := y.tail.tail.tail.head; have x4 := y.tail.tail.tail.tail.head
    clear y
    go_enter Tryz.func46, Tryz.ntmps46
    go_wp2_with fail
    rw [← HW.out]
    refine (B_p.out _ (Below.refl w0.heap.size w0)).mono ?_; rintro e w1 ⟨rfl, ha1⟩
    have hb1 := (Below.refl w0.heap.size w0).trans (ha1.mono (Below.refl w0.heap.size w0).size)
    clear x0 x1 x2 x3 x4
    have hcc := HC.out.below hb1
    have x0 := hcc.head; have x1 := hcc.tail.head; have x2 := hcc.tail.tail.head; have x3 := hcc.tail.tail.tail.head; have x4 := hcc.tail.tail.tail.tail.head
    clear hcc
    go_wp2_with fail
    go_ret
    exact ⟨by rw [dstE, E_p.out]; rfl, hb0.trans (hb1.mono hb0.size)⟩
  · have E_p := Lib.hid e_p
    have B_p := K_p.out
    rw [e_p] at B_p
    have B_p := Lib.hid B_p
    clear e_p
    rcases Bool.eq_false_or_eq_true (anyx (fun k => sameS (ks k) (ks i)) i) with e_d | e_d
    · have E_d := Lib.hid e_d
      have B_d := K_d.out
      rw [e_d] at B_d
      have B_d := Lib.hid B_d
      clear e_d
      have y := HC.out.below (Below.refl _ _)
      have x0 := y.head; have x1 := y.tail.head; have x2 := y.tail.tail.head; have x3 := y.tail.tail.tail.head; have x4 := y.tail.tail.tail.tail.head
      clear y
      go_enter Tryz.func46, Tryz.ntmps46
      go_wp2_with fail
      rw [← HW.out]
      refine (B_p.out _ (Below.refl w0.heap.size w0)).mono ?_; rintro e w1 ⟨rfl, ha1⟩
      have hb1 := (Below.refl w0.heap.size w0).trans (ha1.mono (Below.refl w0.heap.size w0).size)
      clear x0 x1 x2 x3 x4
      have hcc := HC.out.below hb1
      have x0 := hcc.head; have x1 := hcc.tail.head; have x2 := hcc.tail.tail.head; have x3 := hcc.tail.tail.tail.head; have x4 := hcc.tail.tail.tail.tail.head
      clear hcc
      go_wp2_with fail
      refine (B_d.out _ hb1).mono ?_; rintro e w2 ⟨rfl, ha2⟩
      have hb2 := hb1.trans (ha2.mono hb1.size)
      clear x0 x1 x2 x3 x4
      have hcc := HC.out.below hb2
      have x0 := hcc.head; have x1 := hcc.tail.head; have x2 := hcc.tail.tail.head; have x3 := hcc.tail.tail.tail.head; have x4 := hcc.tail.tail.tail.tail.head
      clear hcc
      go_wp2_with fail
      go_ret
      exact ⟨by rw [dstE, E_p.out, E_d.out]; rfl, hb0.trans (hb2.mono hb0.size)⟩
    · have E_d := Lib.hid e_d
      have B_d := K_d.out
      rw [e_d] at B_d
      have B_d := Lib.hid B_d
      clear e_d
      rcases (Bool.eq_false_or_eq_true (labB nl cl)).symm with e_c | e_c
      · have E_c := Lib.hid e_c
        have B_c := K_c.out
        rw [e_c] at B_c
        have B_c := Lib.hid B_c
        clear e_c
        have y := HC.out.below (Below.refl _ _)
        have x0 := y.head; have x1 := y.tail.head; have x2 := y.tail.tail.head; have x3 := y.tail.tail.tail.head; have x4 := y.tail.tail.tail.tail.head
        clear y
        go_enter Tryz.func46, Tryz.ntmps46
        go_wp2_with fail
        rw [← HW.out]
        refine (B_p.out _ (Below.refl w0.heap.size w0)).mono ?_; rintro e w1 ⟨rfl, ha1⟩
        have hb1 := (Below.refl w0.heap.size w0).trans (ha1.mono (Below.refl w0.heap.size w0).size)
        clear x0 x1 x2 x3 x4
        have hcc := HC.out.below hb1
        have x0 := hcc.head; have x1 := hcc.tail.head; have x2 := hcc.tail.tail.head; have x3 := hcc.tail.tail.tail.head; have x4 := hcc.tail.tail.tail.tail.head
        clear hcc
        go_wp2_with fail
        refine (B_d.out _ hb1).mono ?_; rintro e w2 ⟨rfl, ha2⟩
        have hb2 := hb1.trans (ha2.mono hb1.size)
        clear x0 x1 x2 x3 x4
        have hcc := HC.out.below hb2
        have x0 := hcc.head; have x1 := hcc.tail.head; have x2 := hcc.tail.tail.head; have x3 := hcc.tail.tail.tail.head; have x4 := hcc.tail.tail.tail.tail.head
        clear hcc
        go_wp2_with fail
        refine (B_c.out _ hb2).mono ?_; rintro e ww ⟨rfl, rfl⟩
        go_wp2_with fail
        go_ret
        exact ⟨by rw [dstE, E_p.out, E_d.out, E_c.out]; rfl, hb0.trans (hb2.mono hb0.size)⟩
      · have E_c := Lib.hid e_c
        have B_c := K_c.out
        rw [e_c] at B_c
        have B_c := Lib.hid B_c
        clear e_c
        have y := HC.out.below (Below.refl _ _)
        have x0 := y.head; have x1 := y.tail.head; have x2 := y.tail.tail.head; have x3 := y.tail.tail.tail.head; have x4 := y.tail.tail.tail.tail.head
        clear y
        go_enter Tryz.func46, Tryz.ntmps46
        go_wp2_with fail
        rw [← HW.out]
        refine (B_p.out _ (Below.refl w0.heap.size w0)).mono ?_; rintro e w1 ⟨rfl, ha1⟩
        have hb1 := (Below.refl w0.heap.size w0).trans (ha1.mono (Below.refl w0.heap.size w0).size)
        clear x0 x1 x2 x3 x4
        have hcc := HC.out.below hb1
        have x0 := hcc.head; have x1 := hcc.tail.head; have x2 := hcc.tail.tail.head; have x3 := hcc.tail.tail.tail.head; have x4 := hcc.tail.tail.tail.tail.head
        clear hcc
        go_wp2_with fail
        refine (B_d.out _ hb1).mono ?_; rintro e w2 ⟨rfl, ha2⟩
        have hb2 := hb1.trans (ha2.mono hb1.size)
        clear x0 x1 x2 x3 x4
        have hcc := HC.out.below hb2
        have x0 := hcc.head; have x1 := hcc.tail.head; have x2 := hcc.tail.tail.head; have x3 := hcc.tail.tail.tail.head; have x4 := hcc.tail.tail.tail.tail.head
        clear hcc
        go_wp2_with fail
        refine (B_c.out _ hb2).mono ?_; rintro e ww ⟨rfl, rfl⟩
        go_wp2_with fail
        go_ret
        exact ⟨by rw [dstE, E_p.out, E_d.out, E_c.out]; rfl, hb0.trans (hb2.mono hb0.size)⟩
def wrkE (nl : Nat) (dup : Bool) (name : ByteArray) (l q : Int) : Int := if !nameB name || dup then 31 else if !labB nl l then 9 else if !decide (1 ≤ q) || !decide (q ≤ 64) then 2 else 0
set_option maxHeartbeats 2000000 in
set_option maxRecDepth 20000 in
theorem judge_works {w : World} {bj bp a off n cp nl cpL : Nat} {aoL : Option Addr} {c : Nat → Nat → Value} {ks : Nat → ByteArray}
    (hJ : Cells w [(bj, 0, .pointer (some ⟨bp, 0, none⟩)), (bp, 0, .slice aoL nl cpL), (bp, 4, .slice (some ⟨a, off, none⟩) n cp)]) (hs : SlAt w (some ⟨a, off, none⟩) n 3 c) (hn : n ≤ 100000) (hcp : n ≤ cp) (hks : ∀ k, k < n → c k 0 = .string (ks k)) (i : Nat) (hi : i < n) (name : ByteArray) (l q : Int) :
    Calls Tryz.prog 49 #[.pointer (some ⟨bj, 0, none⟩), .int .i64 i, .agg #[.string name, .int .i64 l, .int .i64 q]] w fun e w' => e = .returned (.int .i64 (wrkE nl (anyx (fun k => sameS (ks k) (ks i)) i) name l q)) ∧ Below w.heap.size w w' := by
  obtain ⟨w0, hw0⟩ : ∃ w0 : World, w0 = w.alloc (.cells #[.string name, .int .i64 l, .int .i64 q] 62) := ⟨_, rfl⟩
  have hb0 : Below w.heap.size w w0 := by rw [hw0]; exact (Below.refl _ w).alloc (Nat.le_refl _) _
  have hn0 : w0.heap[w.heap.size]? = some (.cells #[.string name, .int .i64 l, .int .i64 q] 62) := by rw [hw0]; exact heap_new w _
  have hc0 : Cells w0 [(bj, 0, .pointer (some ⟨bp, 0, none⟩)), (bp, 0, .slice aoL nl cpL), (bp, 4, .slice (some ⟨a, off, none⟩) n cp), (w.heap.size, 0, .string name), (w.heap.size, 1, .int .i64 l), (w.heap.size, 2, .int .i64 q)] := .cons (hJ.below hb0).head (.cons (hJ.below hb0).tail.head (.cons (hJ.below hb0).tail.tail.head (.cons (cell_of (o := 0) hn0) (.cons (cell_of (o := 1) hn0) (.cons (cell_of (o := 2) hn0) (.nil _))))))
  have hs0 := hs.below hb0
  have HC := Lib.hid hc0; clear hc0 hJ
  have HW := Lib.hid hw0; clear hw0 hn0
  have K_n := Lib.hid (show ∀ W, Below w0.heap.size w0 W → Calls Tryz.prog 84 #[.string name] W fun e w' => e = .returned (.int .i64 (if nameB name = true then 0 else 31)) ∧ Below W.heap.size W w' from fun W _ => text_Name name W); 
  have K_d := Lib.hid (show ∀ W, Below w0.heap.size w0 W → Calls Tryz.prog 116 #[.slice (some ⟨a, off, none⟩) n cp, .int .i64 i, .func (.func 117) #[] #[]] W fun e w' => e = .returned (.bool (anyx (fun k => sameS (ks k) (ks i)) i)) ∧ Below W.heap.size W w' from fun W hW => twice_work a off n cp c ks 117 (enters_of Tryz.func117 (by kernel_rfl) rfl) W i hi hn hcp (hs0.below hW) (fun k hk => by rw [hks k hk]; exact key_work _ _ _)); 
  have K_l := Lib.hid (show ∀ W, Below w0.heap.size w0 W → Calls Tryz.prog 112 #[.pointer (some ⟨bj, 0, none⟩), .int .i64 l] W fun e w' => e = .returned (.bool (labB nl l)) ∧ W = w' from fun W hW => judge_label l (HC.out.below hW).head (HC.out.below hW).tail.head); 
  clear hs hs0 hks
  rcases (Bool.eq_false_or_eq_true (nameB name)).symm with e_n | e_n
  · have E_n := Lib.hid e_n
    have B_n := K_n.out
    rw [e_n] at B_n
    have B_n := Lib.hid B_n
    clear e_n
    have y := HC.out.below (Below.refl _ _)
    have x0 := y.head; have x1 := y.tail.head; have x2 := y.tail.tail.head; have x3 := y.tail.tail.tail.head; have x4 := y.tail.tail.tail.tail.head; have x5 := y.tail.tail.tail.tail.tail.head
    clear y
    go_enter Tryz.func49, Tryz.ntmps49
    go_wp2_with fail
    rw [← HW.out]
    refine (B_n.out _ (Below.refl w0.heap.size w0)).mono ?_; rintro e w1 ⟨rfl, ha1⟩
    have hb1 := (Below.refl w0.heap.size w0).trans (ha1.mono (Below.refl w0.heap.size w0).size)
    clear x0 x1 x2 x3 x4 x5
    have hcc := HC.out.below hb1
    have x0 := hcc.head; have x1 := hcc.tail.head; have x2 := hcc.tail.tail.head; have x3 := hcc.tail.tail.tail.head; have x4 := hcc.tail.tail.tail.tail.head; have x5 := hcc.tail.tail.tail.tail.tail.head
    clear hcc
    go_wp2_with fail
    go_ret
    exact ⟨by rw [wrkE, E_n.out]; rfl, hb0.trans (hb1.mono hb0.size)⟩
  · have E_n := Lib.hid e_n
    have B_n := K_n.out
    rw [e_n] at B_n
    have B_n := Lib.hid B_n
    clear e_n
    rcases Bool.eq_false_or_eq_true (anyx (fun k => sameS (ks k) (ks i)) i) with e_d | e_d
    · have E_d := Lib.hid e_d
      have B_d := K_d.out
      rw [e_d] at B_d
      have B_d := Lib.hid B_d
      clear e_d
      have y := HC.out.below (Below.refl _ _)
      have x0 := y.head; have x1 := y.tail.head; have x2 := y.tail.tail.head; have x3 := y.tail.tail.tail.head; have x4 := y.tail.tail.tail.tail.head; have x5 := y.tail.tail.tail.tail.tail.head
      clear y
      go_enter Tryz.func49, Tryz.ntmps49
      go_wp2_with fail
      rw [← HW.out]
      refine (B_n.out _ (Below.refl w0.heap.size w0)).mono ?_; rintro e w1 ⟨rfl, ha1⟩
      have hb1 := (Below.refl w0.heap.size w0).trans (ha1.mono (Below.refl w0.heap.size w0).size)
      clear x0 x1 x2 x3 x4 x5
      have hcc := HC.out.below hb1
      have x0 := hcc.head; have x1 := hcc.tail.head; have x2 := hcc.tail.tail.head; have x3 := hcc.tail.tail.tail.head; have x4 := hcc.tail.tail.tail.tail.head; have x5 := hcc.tail.tail.tail.tail.tail.head
      clear hcc
      go_wp2_with fail
      refine (B_d.out _ hb1).mono ?_; rintro e w2 ⟨rfl, ha2⟩
      have hb2 := hb1.trans (ha2.mono hb1.size)
      clear x0 x1 x2 x3 x4 x5
      have hcc := HC.out.below hb2
      have x0 := hcc.head; have x1 := hcc.tail.head; have x2 := hcc.tail.tail.head; have x3 := hcc.tail.tail.tail.head; have x4 := hcc.tail.tail.tail.tail.head; have x5 := hcc.tail.tail.tail.tail.tail.head
      clear hcc
      go_wp2_with fail
      go_ret
      exact ⟨by rw [wrkE, E_n.out, E_d.out]; rfl, hb0.trans (hb2.mono hb0.size)⟩
    · have E_d := Lib.hid e_d
      have B_d := K_d.out
      rw [e_d] at B_d
      have B_d := Lib.hid B_d
      clear e_d
      rcases (Bool.eq_false_or_eq_true (labB nl l)).symm with e_l | e_l
      · have E_l := Lib.hid e_l
        have B_l := K_l.out
        rw [e_l] at B_l
        have B_l := Lib.hid B_l
        clear e_l
        have y := HC.out.below (Below.refl _ _)
        have x0 := y.head; have x1 := y.tail.head; have x2 := y.tail.tail.head; have x3 := y.tail.tail.tail.head; have x4 := y.tail.tail.tail.tail.head; have x5 := y.tail.tail.tail.tail.tail.head
        clear y
        go_enter Tryz.func49, Tryz.ntmps49
        go_wp2_with fail
        rw [← HW.out]
        refine (B_n.out _ (Below.refl w0.heap.size w0)).mono ?_; rintro e w1 ⟨rfl, ha1⟩
        have hb1 := (Below.refl w0.heap.size w0).trans (ha1.mono (Below.refl w0.heap.size w0).size)
        clear x0 x1 x2 x3 x4 x5
        have hcc := HC.out.below hb1
        have x0 := hcc.head; have x1 := hcc.tail.head; have x2 := hcc.tail.tail.head; have x3 := hcc.tail.tail.tail.head; have x4 := hcc.tail.tail.tail.tail.head; have x5 := hcc.tail.tail.tail.tail.tail.head
        clear hcc
        go_wp2_with fail
        refine (B_d.out _ hb1).mono ?_; rintro e w2 ⟨rfl, ha2⟩
        have hb2 := hb1.trans (ha2.mono hb1.size)
        clear x0 x1 x2 x3 x4 x5
        have hcc := HC.out.below hb2
        have x0 := hcc.head; have x1 := hcc.tail.head; have x2 := hcc.tail.tail.head; have x3 := hcc.tail.tail.tail.head; have x4 := hcc.tail.tail.tail.tail.head; have x5 := hcc.tail.tail.tail.tail.tail.head
        clear hcc
        go_wp2_with fail
        refine (B_l.out _ hb2).mono ?_; rintro e ww ⟨rfl, rfl⟩
        go_wp2_with fail
        go_ret
        exact ⟨by rw [wrkE, E_n.out, E_d.out, E_l.out]; rfl, hb0.trans (hb2.mono hb0.size)⟩
      · have E_l := Lib.hid e_l
        have B_l := K_l.out
        rw [e_l] at B_l
        have B_l := Lib.hid B_l
        clear e_l
        rcases (Bool.eq_false_or_eq_true (decide (1 ≤ q))).symm with e_q1 | e_q1
        · have E_q1 := Lib.hid e_q1
          have zq1 : ¬ (1 : Int) ≤ q := of_decide_eq_false e_q1
          clear e_q1
          have y := HC.out.below (Below.refl _ _)
          have x0 := y.head; have x1 := y.tail.head; have x2 := y.tail.tail.head; have x3 := y.tail.tail.tail.head; have x4 := y.tail.tail.tail.tail.head; have x5 := y.tail.tail.tail.tail.tail.head
          clear y
          go_enter Tryz.func49, Tryz.ntmps49
          go_wp2_with fail
          rw [← HW.out]
          refine (B_n.out _ (Below.refl w0.heap.size w0)).mono ?_; rintro e w1 ⟨rfl, ha1⟩
          have hb1 := (Below.refl w0.heap.size w0).trans (ha1.mono (Below.refl w0.heap.size w0).size)
          clear x0 x1 x2 x3 x4 x5
          have hcc := HC.out.below hb1
          have x0 := hcc.head; have x1 := hcc.tail.head; have x2 := hcc.tail.tail.head; have x3 := hcc.tail.tail.tail.head; have x4 := hcc.tail.tail.tail.tail.head; have x5 := hcc.tail.tail.tail.tail.tail.head
          clear hcc
          go_wp2_with fail
          refine (B_d.out _ hb1).mono ?_; rintro e w2 ⟨rfl, ha2⟩
          have hb2 := hb1.trans (ha2.mono hb1.size)
          clear x0 x1 x2 x3 x4 x5
          have hcc := HC.out.below hb2
          have x0 := hcc.head; have x1 := hcc.tail.head; have x2 := hcc.tail.tail.head; have x3 := hcc.tail.tail.tail.head; have x4 := hcc.tail.tail.tail.tail.head; have x5 := hcc.tail.tail.tail.tail.tail.head
          clear hcc
          go_wp2_with fail
          refine (B_l.out _ hb2).mono ?_; rintro e ww ⟨rfl, rfl⟩
          go_wp2_with fail
          go_ret
          exact ⟨by rw [wrkE, E_n.out, E_d.out, E_l.out, E_q1.out]; rfl, hb0.trans (hb2.mono hb0.size)⟩
        · have E_q1 := Lib.hid e_q1
          have zq1 : (1 : Int) ≤ q := of_decide_eq_true e_q1
          clear e_q1
          rcases (Bool.eq_false_or_eq_true (decide (q ≤ 64))).symm with e_q2 | e_q2
          · have E_q2 := Lib.hid e_q2
            have zq2 : ¬ q ≤ 64 := of_decide_eq_false e_q2
            clear e_q2
            have y := HC.out.below (Below.refl _ _)
            have x0 := y.head; have x1 := y.tail.head; have x2 := y.tail.tail.head; have x3 := y.tail.tail.tail.head; have x4 := y.tail.tail.tail.tail.head; have x5 := y.tail.tail.tail.tail.tail.head
            clear y
            go_enter Tryz.func49, Tryz.ntmps49
            go_wp2_with fail
            rw [← HW.out]
            refine (B_n.out _ (Below.refl w0.heap.size w0)).mono ?_; rintro e w1 ⟨rfl, ha1⟩
            have hb1 := (Below.refl w0.heap.size w0).trans (ha1.mono (Below.refl w0.heap.size w0).size)
            clear x0 x1 x2 x3 x4 x5
            have hcc := HC.out.below hb1
            have x0 := hcc.head; have x1 := hcc.tail.head; have x2 := hcc.tail.tail.head; have x3 := hcc.tail.tail.tail.head; have x4 := hcc.tail.tail.tail.tail.head; have x5 := hcc.tail.tail.tail.tail.tail.head
            clear hcc
            go_wp2_with fail
            refine (B_d.out _ hb1).mono ?_; rintro e w2 ⟨rfl, ha2⟩
            have hb2 := hb1.trans (ha2.mono hb1.size)
            clear x0 x1 x2 x3 x4 x5
            have hcc := HC.out.below hb2
            have x0 := hcc.head; have x1 := hcc.tail.head; have x2 := hcc.tail.tail.head; have x3 := hcc.tail.tail.tail.head; have x4 := hcc.tail.tail.tail.tail.head; have x5 := hcc.tail.tail.tail.tail.tail.head
            clear hcc
            go_wp2_with fail
            refine (B_l.out _ hb2).mono ?_; rintro e ww ⟨rfl, rfl⟩
            go_wp2_with fail
            go_ret
            exact ⟨by rw [wrkE, E_n.out, E_d.out, E_l.out, E_q1.out, E_q2.out]; rfl, hb0.trans (hb2.mono hb0.size)⟩
          · have E_q2 := Lib.hid e_q2
            have zq2 : q ≤ 64 := of_decide_eq_true e_q2
            clear e_q2
            have y := HC.out.below (Below.refl _ _)
            have x0 := y.head; have x1 := y.tail.head; have x2 := y.tail.tail.head; have x3 := y.tail.tail.tail.head; have x4 := y.tail.tail.tail.tail.head; have x5 := y.tail.tail.tail.tail.tail.head
            clear y
            go_enter Tryz.func49, Tryz.ntmps49
            go_wp2_with fail
            rw [← HW.out]
            refine (B_n.out _ (Below.refl w0.heap.size w0)).mono ?_; rintro e w1 ⟨rfl, ha1⟩
            have hb1 := (Below.refl w0.heap.size w0).trans (ha1.mono (Below.refl w0.heap.size w0).size)
            clear x0 x1 x2 x3 x4 x5
            have hcc := HC.out.below hb1
            have x0 := hcc.head; have x1 := hcc.tail.head; have x2 := hcc.tail.tail.head; have x3 := hcc.tail.tail.tail.head; have x4 := hcc.tail.tail.tail.tail.head; have x5 := hcc.tail.tail.tail.tail.tail.head
            clear hcc
            go_wp2_with fail
            refine (B_d.out _ hb1).mono ?_; rintro e w2 ⟨rfl, ha2⟩
            have hb2 := hb1.trans (ha2.mono hb1.size)
            clear x0 x1 x2 x3 x4 x5
            have hcc := HC.out.below hb2
            have x0 := hcc.head; have x1 := hcc.tail.head; have x2 := hcc.tail.tail.head; have x3 := hcc.tail.tail.tail.head; have x4 := hcc.tail.tail.tail.tail.head; have x5 := hcc.tail.tail.tail.tail.tail.head
            clear hcc
            go_wp2_with fail
            refine (B_l.out _ hb2).mono ?_; rintro e ww ⟨rfl, rfl⟩
            go_wp2_with fail
            go_ret
            exact ⟨by rw [wrkE, E_n.out, E_d.out, E_l.out, E_q1.out, E_q2.out]; rfl, hb0.trans (hb2.mono hb0.size)⟩
def grtE (nl nw : Nat) (up : List Nat) (dup : Bool) (name : ByteArray) (wk fr tq : Int) (pre : ByteArray) : Int := if !nameB name || dup then 31 else if !labB nw wk || (!labB nl fr || !labB nl tq) then 9 else if (fr == tq) || !leqO up tq fr then 80 else if !pathB pre then 4 else 0
set_option maxHeartbeats 2000000 in
set_option maxRecDepth 20000 in
theorem judge_grant {w : World} {bj bp a off n cp nl cpL nw cpW bl b bu bd nL : Nat} {up down : List Nat} {lhi : Int} {aoL aoW : Option Addr} {c : Nat → Nat → Value} {ks : Nat → ByteArray}
    (hlat : LatAt w bl b bu bd nL up down lhi) (hok : OrdOk nL up down) (hJ : Cells w [(bj, 0, .pointer (some ⟨bp, 0, none⟩)), (bj, 1, .pointer (some ⟨bl, 0, none⟩)), (bp, 0, .slice aoL nl cpL), (bp, 4, .slice aoW nw cpW), (bp, 7, .slice (some ⟨a, off, none⟩) n cp)]) (hs : SlAt w (some ⟨a, off, none⟩) n 5 c) (hn : n ≤ 100000) (hcp : n ≤ cp) (hks : ∀ k, k < n → c k 0 = .string (ks k)) (i : Nat) (hi : i < n) (name : ByteArray) (wk fr tq : Int) (pre : ByteArray) (hsz : pre.size ≤ 9223372036854775807) :
    Calls Tryz.prog 58 #[.pointer (some ⟨bj, 0, none⟩), .int .i64 i, .agg #[.string name, .int .i64 wk, .int .i64 fr, .int .i64 tq, .string pre]] w fun e w' => e = .returned (.int .i64 (grtE nl nw up (anyx (fun k => sameS (ks k) (ks i)) i) name wk fr tq pre)) ∧ Below w.heap.size w w' := by
  obtain ⟨w0, hw0⟩ : ∃ w0 : World, w0 = w.alloc (.cells #[.string name, .int .i64 wk, .int .i64 fr, .int .i64 tq, .string pre] 53) := ⟨_, rfl⟩
  have hb0 : Below w.heap.size w w0 := by rw [hw0]; exact (Below.refl _ w).alloc (Nat.le_refl _) _
  have hn0 : w0.heap[w.heap.size]? = some (.cells #[.string name, .int .i64 wk, .int .i64 fr, .int .i64 tq, .string pre] 53) := by rw [hw0]; exact heap_new w _
  have hc0 : Cells w0 [(bj, 0, .pointer (some ⟨bp, 0, none⟩)), (bj, 1, .pointer (some ⟨bl, 0, none⟩)), (bp, 0, .slice aoL nl cpL), (bp, 4, .slice aoW nw cpW), (bp, 7, .slice (some ⟨a, off, none⟩) n cp), (w.heap.size, 0, .string name), (w.heap.size, 1, .int .i64 wk), (w.heap.size, 2, .int .i64 fr), (w.heap.size, 3, .int .i64 tq), (w.heap.size, 4, .string pre)] := .cons (hJ.below hb0).head (.cons (hJ.below hb0).tail.head (.cons (hJ.below hb0).tail.tail.head (.cons (hJ.below hb0).tail.tail.tail.head (.cons (hJ.below hb0).tail.tail.tail.tail.head (.cons (cell_of (o := 0) hn0) (.cons (cell_of (o := 1) hn0) (.cons (cell_of (o := 2) hn0) (.cons (cell_of (o := 3) hn0) (.cons (cell_of (o := 4) hn0) (.nil _))))))))))
  have hs0 := hs.below hb0
  have HC := Lib.hid hc0; clear hc0 hJ
  have HW := Lib.hid hw0; clear hw0 hn0
  have K_n := Lib.hid (show ∀ W, Below w0.heap.size w0 W → Calls Tryz.prog 84 #[.string name] W fun e w' => e = .returned (.int .i64 (if nameB name = true then 0 else 31)) ∧ Below W.heap.size W w' from fun W _ => text_Name name W); 
  have K_d := Lib.hid (show ∀ W, Below w0.heap.size w0 W → Calls Tryz.prog 127 #[.slice (some ⟨a, off, none⟩) n cp, .int .i64 i, .func (.func 128) #[] #[]] W fun e w' => e = .returned (.bool (anyx (fun k => sameS (ks k) (ks i)) i)) ∧ Below W.heap.size W w' from fun W hW => twice_grant a off n cp c ks 128 (enters_of Tryz.func128 (by kernel_rfl) rfl) W i hi hn hcp (hs0.below hW) (fun k hk => by rw [hks k hk]; exact key_grant _ _ _ _ _)); 
  have K_w := Lib.hid (show ∀ W, Below w0.heap.size w0 W → Calls Tryz.prog 122 #[.pointer (some ⟨bj, 0, none⟩), .int .i64 wk] W fun e w' => e = .returned (.bool (labB nw wk)) ∧ W = w' from fun W hW => judge_work wk (HC.out.below hW).head (HC.out.below hW).tail.tail.tail.head); 
  have K_f := Lib.hid (show ∀ W, Below w0.heap.size w0 W → Calls Tryz.prog 112 #[.pointer (some ⟨bj, 0, none⟩), .int .i64 fr] W fun e w' => e = .returned (.bool (labB nl fr)) ∧ W = w' from fun W hW => judge_label fr (HC.out.below hW).head (HC.out.below hW).tail.tail.head); 
  have K_o := Lib.hid (show ∀ W, Below w0.heap.size w0 W → Calls Tryz.prog 112 #[.pointer (some ⟨bj, 0, none⟩), .int .i64 tq] W fun e w' => e = .returned (.bool (labB nl tq)) ∧ W = w' from fun W hW => judge_label tq (HC.out.below hW).head (HC.out.below hW).tail.tail.head); 
  have K_q := Lib.hid (show ∀ W, Below w0.heap.size w0 W → Calls Tryz.prog 63 #[.pointer (some ⟨bl, 0, none⟩), .int .i64 tq, .int .i64 fr] W fun e w' => e = .returned (.bool (leqO up tq fr)) ∧ W = w' from fun W hW => lat_Leq (hlat.below (hb0.trans (hW.mono hb0.size))) hok tq fr); 
  have K_t := Lib.hid (show ∀ W, Below w0.heap.size w0 W → Calls Tryz.prog 121 #[.string pre] W fun e w' => e = .returned (.bool (pathB pre)) ∧ Below W.heap.size W w' from fun W _ => policy_path pre W hsz); 
  clear hs hs0 hks hlat
  rcases (Bool.eq_false_or_eq_true (nameB name)).symm with e_n | e_n
  · have E_n := Lib.hid e_n
    have B_n := K_n.out
    rw [e_n] at B_n
    have B_n := Lib.hid B_n
    clear e_n
    have y := HC.out.below (Below.refl _ _)
    have x0 := y.head; have x1 := y.tail.head; have x2 := y.tail.tail.head; have x3 := y.tail.tail.tail.head; have x4 := y.tail.tail.tail.tail.head; have x5 := y.tail.tail.tail.tail.tail.head; have x6 := y.tail.tail.tail.tail.tail.tail.head; have x7 := y.tail.tail.tail.tail.tail.tail.tail.head; have x8 := y.tail.tail.tail.tail.tail.tail.tail.tail.head; have x9 := y.tail.tail.tail.tail.tail.tail.tail.tail.tail.head
    clear y
    go_enter Tryz.func58, Tryz.ntmps58
    go_wp2_with fail
    rw [← HW.out]
    refine (B_n.out _ (Below.refl w0.heap.size w0)).mono ?_; rintro e w1 ⟨rfl, ha1⟩
    have hb1 := (Below.refl w0.heap.size w0).trans (ha1.mono (Below.refl w0.heap.size w0).size)
    clear x0 x1 x2 x3 x4 x5 x6 x7 x8 x9
    have hcc := HC.out.below hb1
    have x0 := hcc.head; have x1 := hcc.tail.head; have x2 := hcc.tail.tail.head; have x3 := hcc.tail.tail.tail.head; have x4 := hcc.tail.tail.tail.tail.head; have x5 := hcc.tail.tail.tail.tail.tail.head; have x6 := hcc.tail.tail.tail.tail.tail.tail.head; have x7 := hcc.tail.tail.tail.tail.tail.tail.tail.head; have x8 := hcc.tail.tail.tail.tail.tail.tail.tail.tail.head; have x9 := hcc.tail.tail.tail.tail.tail.tail.tail.tail.tail.head
    clear hcc
    go_wp2_with fail
    go_ret
    exact ⟨by rw [grtE, E_n.out]; rfl, hb0.trans (hb1.mono hb0.size)⟩
  · have E_n := Lib.hid e_n
    have B_n := K_n.out
    rw [e_n] at B_n
    have B_n := Lib.hid B_n
    clear e_n
    rcases Bool.eq_false_or_eq_true (anyx (fun k => sameS (ks k) (ks i)) i) with e_d | e_d
    · have E_d := Lib.hid e_d
      have B_d := K_d.out
      rw [e_d] at B_d
      have B_d := Lib.hid B_d
      clear e_d
      have y := HC.out.below (Below.refl _ _)
      have x0 := y.head; have x1 := y.tail.head; have x2 := y.tail.tail.head; have x3 := y.tail.tail.tail.head; have x4 := y.tail.tail.tail.tail.head; have x5 := y.tail.tail.tail.tail.tail.head; have x6 := y.tail.tail.tail.tail.tail.tail.head; have x7 := y.tail.tail.tail.tail.tail.tail.tail.head; have x8 := y.tail.tail.tail.tail.tail.tail.tail.tail.head; have x9 := y.tail.tail.tail.tail.tail.tail.tail.tail.tail.head
      clear y
      go_enter Tryz.func58, Tryz.ntmps58
      go_wp2_with fail
      rw [← HW.out]
      refine (B_n.out _ (Below.refl w0.heap.size w0)).mono ?_; rintro e w1 ⟨rfl, ha1⟩
      have hb1 := (Below.refl w0.heap.size w0).trans (ha1.mono (Below.refl w0.heap.size w0).size)
      clear x0 x1 x2 x3 x4 x5 x6 x7 x8 x9
      have hcc := HC.out.below hb1
      have x0 := hcc.head; have x1 := hcc.tail.head; have x2 := hcc.tail.tail.head; have x3 := hcc.tail.tail.tail.head; have x4 := hcc.tail.tail.tail.tail.head; have x5 := hcc.tail.tail.tail.tail.tail.head; have x6 := hcc.tail.tail.tail.tail.tail.tail.head; have x7 := hcc.tail.tail.tail.tail.tail.tail.tail.head; have x8 := hcc.tail.tail.tail.tail.tail.tail.tail.tail.head; have x9 := hcc.tail.tail.tail.tail.tail.tail.tail.tail.tail.head
      clear hcc
      go_wp2_with fail
      refine (B_d.out _ hb1).mono ?_; rintro e w2 ⟨rfl, ha2⟩
      have hb2 := hb1.trans (ha2.mono hb1.size)
      clear x0 x1 x2 x3 x4 x5 x6 x7 x8 x9
      have hcc := HC.out.below hb2
      have x0 := hcc.head; have x1 := hcc.tail.head; have x2 := hcc.tail.tail.head; have x3 := hcc.tail.tail.tail.head; have x4 := hcc.tail.tail.tail.tail.head; have x5 := hcc.tail.tail.tail.tail.tail.head; have x6 := hcc.tail.tail.tail.tail.tail.tail.head; have x7 := hcc.tail.tail.tail.tail.tail.tail.tail.head; have x8 := hcc.tail.tail.tail.tail.tail.tail.tail.tail.head; have x9 := hcc.tail.tail.tail.tail.tail.tail.tail.tail.tail.head
      clear hcc
      go_wp2_with fail
      go_ret
      exact ⟨by rw [grtE, E_n.out, E_d.out]; rfl, hb0.trans (hb2.mono hb0.size)⟩
    · have E_d := Lib.hid e_d
      have B_d := K_d.out
      rw [e_d] at B_d
      have B_d := Lib.hid B_d
      clear e_d
      rcases (Bool.eq_false_or_eq_true (labB nw wk)).symm with e_w | e_w
      · have E_w := Lib.hid e_w
        have B_w := K_w.out
        rw [e_w] at B_w
        have B_w := Lib.hid B_w
        clear e_w
        have y := HC.out.below (Below.refl _ _)
        have x0 := y.head; have x1 := y.tail.head; have x2 := y.tail.tail.head; have x3 := y.tail.tail.tail.head; have x4 := y.tail.tail.tail.tail.head; have x5 := y.tail.tail.tail.tail.tail.head; have x6 := y.tail.tail.tail.tail.tail.tail.head; have x7 := y.tail.tail.tail.tail.tail.tail.tail.head; have x8 := y.tail.tail.tail.tail.tail.tail.tail.tail.head; have x9 := y.tail.tail.tail.tail.tail.tail.tail.tail.tail.head
        clear y
        go_enter Tryz.func58, Tryz.ntmps58
        go_wp2_with fail
        rw [← HW.out]
        refine (B_n.out _ (Below.refl w0.heap.size w0)).mono ?_; rintro e w1 ⟨rfl, ha1⟩
        have hb1 := (Below.refl w0.heap.size w0).trans (ha1.mono (Below.refl w0.heap.size w0).size)
        clear x0 x1 x2 x3 x4 x5 x6 x7 x8 x9
        have hcc := HC.out.below hb1
        have x0 := hcc.head; have x1 := hcc.tail.head; have x2 := hcc.tail.tail.head; have x3 := hcc.tail.tail.tail.head; have x4 := hcc.tail.tail.tail.tail.head; have x5 := hcc.tail.tail.tail.tail.tail.head; have x6 := hcc.tail.tail.tail.tail.tail.tail.head; have x7 := hcc.tail.tail.tail.tail.tail.tail.tail.head; have x8 := hcc.tail.tail.tail.tail.tail.tail.tail.tail.head; have x9 := hcc.tail.tail.tail.tail.tail.tail.tail.tail.tail.head
        clear hcc
        go_wp2_with fail
        refine (B_d.out _ hb1).mono ?_; rintro e w2 ⟨rfl, ha2⟩
        have hb2 := hb1.trans (ha2.mono hb1.size)
        clear x0 x1 x2 x3 x4 x5 x6 x7 x8 x9
        have hcc := HC.out.below hb2
        have x0 := hcc.head; have x1 := hcc.tail.head; have x2 := hcc.tail.tail.head; have x3 := hcc.tail.tail.tail.head; have x4 := hcc.tail.tail.tail.tail.head; have x5 := hcc.tail.tail.tail.tail.tail.head; have x6 := hcc.tail.tail.tail.tail.tail.tail.head; have x7 := hcc.tail.tail.tail.tail.tail.tail.tail.head; have x8 := hcc.tail.tail.tail.tail.tail.tail.tail.tail.head; have x9 := hcc.tail.tail.tail.tail.tail.tail.tail.tail.tail.head
        clear hcc
        go_wp2_with fail
        refine (B_w.out _ hb2).mono ?_; rintro e ww ⟨rfl, rfl⟩
        go_wp2_with fail
        go_ret
        exact ⟨by rw [grtE, E_n.out, E_d.out, E_w.out]; rfl, hb0.trans (hb2.mono hb0.size)⟩
      · have E_w := Lib.hid e_w
        have B_w := K_w.out
        rw [e_w] at B_w
        have B_w := Lib.hid B_w
        clear e_w
        rcases (Bool.eq_false_or_eq_true (labB nl fr)).symm with e_f | e_f
        · have E_f := Lib.hid e_f
          have B_f := K_f.out
          rw [e_f] at B_f
          have B_f := Lib.hid B_f
          clear e_f
          have y := HC.out.below (Below.refl _ _)
          have x0 := y.head; have x1 := y.tail.head; have x2 := y.tail.tail.head; have x3 := y.tail.tail.tail.head; have x4 := y.tail.tail.tail.tail.head; have x5 := y.tail.tail.tail.tail.tail.head; have x6 := y.tail.tail.tail.tail.tail.tail.head; have x7 := y.tail.tail.tail.tail.tail.tail.tail.head; have x8 := y.tail.tail.tail.tail.tail.tail.tail.tail.head; have x9 := y.tail.tail.tail.tail.tail.tail.tail.tail.tail.head
          clear y
          go_enter Tryz.func58, Tryz.ntmps58
          go_wp2_with fail
          rw [← HW.out]
          refine (B_n.out _ (Below.refl w0.heap.size w0)).mono ?_; rintro e w1 ⟨rfl, ha1⟩
          have hb1 := (Below.refl w0.heap.size w0).trans (ha1.mono (Below.refl w0.heap.size w0).size)
          clear x0 x1 x2 x3 x4 x5 x6 x7 x8 x9
          have hcc := HC.out.below hb1
          have x0 := hcc.head; have x1 := hcc.tail.head; have x2 := hcc.tail.tail.head; have x3 := hcc.tail.tail.tail.head; have x4 := hcc.tail.tail.tail.tail.head; have x5 := hcc.tail.tail.tail.tail.tail.head; have x6 := hcc.tail.tail.tail.tail.tail.tail.head; have x7 := hcc.tail.tail.tail.tail.tail.tail.tail.head; have x8 := hcc.tail.tail.tail.tail.tail.tail.tail.tail.head; have x9 := hcc.tail.tail.tail.tail.tail.tail.tail.tail.tail.head
          clear hcc
          go_wp2_with fail
          refine (B_d.out _ hb1).mono ?_; rintro e w2 ⟨rfl, ha2⟩
          have hb2 := hb1.trans (ha2.mono hb1.size)
          clear x0 x1 x2 x3 x4 x5 x6 x7 x8 x9
          have hcc := HC.out.below hb2
          have x0 := hcc.head; have x1 := hcc.tail.head; have x2 := hcc.tail.tail.head; have x3 := hcc.tail.tail.tail.head; have x4 := hcc.tail.tail.tail.tail.head; have x5 := hcc.tail.tail.tail.tail.tail.head; have x6 := hcc.tail.tail.tail.tail.tail.tail.head; have x7 := hcc.tail.tail.tail.tail.tail.tail.tail.head; have x8 := hcc.tail.tail.tail.tail.tail.tail.tail.tail.head; have x9 := hcc.tail.tail.tail.tail.tail.tail.tail.tail.tail.head
          clear hcc
          go_wp2_with fail
          refine (B_w.out _ hb2).mono ?_; rintro e ww ⟨rfl, rfl⟩
          go_wp2_with fail
          refine (B_f.out _ hb2).mono ?_; rintro e ww ⟨rfl, rfl⟩
          go_wp2_with fail
          go_ret
          exact ⟨by rw [grtE, E_n.out, E_d.out, E_w.out, E_f.out]; rfl, hb0.trans (hb2.mono hb0.size)⟩
        · have E_f := Lib.hid e_f
          have B_f := K_f.out
          rw [e_f] at B_f
          have B_f := Lib.hid B_f
          clear e_f
          rcases (Bool.eq_false_or_eq_true (labB nl tq)).symm with e_o | e_o
          · have E_o := Lib.hid e_o
            have B_o := K_o.out
            rw [e_o] at B_o
            have B_o := Lib.hid B_o
            clear e_o
            have y := HC.out.below (Below.refl _ _)
            have x0 := y.head; have x1 := y.tail.head; have x2 := y.tail.tail.head; have x3 := y.tail.tail.tail.head; have x4 := y.tail.tail.tail.tail.head; have x5 := y.tail.tail.tail.tail.tail.head; have x6 := y.tail.tail.tail.tail.tail.tail.head; have x7 := y.tail.tail.tail.tail.tail.tail.tail.head; have x8 := y.tail.tail.tail.tail.tail.tail.tail.tail.head; have x9 := y.tail.tail.tail.tail.tail.tail.tail.tail.tail.head
            clear y
            go_enter Tryz.func58, Tryz.ntmps58
            go_wp2_with fail
            rw [← HW.out]
            refine (B_n.out _ (Below.refl w0.heap.size w0)).mono ?_; rintro e w1 ⟨rfl, ha1⟩
            have hb1 := (Below.refl w0.heap.size w0).trans (ha1.mono (Below.refl w0.heap.size w0).size)
            clear x0 x1 x2 x3 x4 x5 x6 x7 x8 x9
            have hcc := HC.out.below hb1
            have x0 := hcc.head; have x1 := hcc.tail.head; have x2 := hcc.tail.tail.head; have x3 := hcc.tail.tail.tail.head; have x4 := hcc.tail.tail.tail.tail.head; have x5 := hcc.tail.tail.tail.tail.tail.head; have x6 := hcc.tail.tail.tail.tail.tail.tail.head; have x7 := hcc.tail.tail.tail.tail.tail.tail.tail.head; have x8 := hcc.tail.tail.tail.tail.tail.tail.tail.tail.head; have x9 := hcc.tail.tail.tail.tail.tail.tail.tail.tail.tail.head
            clear hcc
            go_wp2_with fail
            refine (B_d.out _ hb1).mono ?_; rintro e w2 ⟨rfl, ha2⟩
            have hb2 := hb1.trans (ha2.mono hb1.size)
            clear x0 x1 x2 x3 x4 x5 x6 x7 x8 x9
            have hcc := HC.out.below hb2
            have x0 := hcc.head; have x1 := hcc.tail.head; have x2 := hcc.tail.tail.head; have x3 := hcc.tail.tail.tail.head; have x4 := hcc.tail.tail.tail.tail.head; have x5 := hcc.tail.tail.tail.tail.tail.head; have x6 := hcc.tail.tail.tail.tail.tail.tail.head; have x7 := hcc.tail.tail.tail.tail.tail.tail.tail.head; have x8 := hcc.tail.tail.tail.tail.tail.tail.tail.tail.head; have x9 := hcc.tail.tail.tail.tail.tail.tail.tail.tail.tail.head
            clear hcc
            go_wp2_with fail
            refine (B_w.out _ hb2).mono ?_; rintro e ww ⟨rfl, rfl⟩
            go_wp2_with fail
            refine (B_f.out _ hb2).mono ?_; rintro e ww ⟨rfl, rfl⟩
            go_wp2_with fail
            refine (B_o.out _ hb2).mono ?_; rintro e ww ⟨rfl, rfl⟩
            go_wp2_with fail
            go_ret
            exact ⟨by rw [grtE, E_n.out, E_d.out, E_w.out, E_f.out, E_o.out]; rfl, hb0.trans (hb2.mono hb0.size)⟩
          · have E_o := Lib.hid e_o
            have B_o := K_o.out
            rw [e_o] at B_o
            have B_o := Lib.hid B_o
            clear e_o
            rcases Bool.eq_false_or_eq_true ((fr == tq)) with e_e | e_e
            · have E_e := Lib.hid e_e
              have ze := e_e
              clear e_e
              have y := HC.out.below (Below.refl _ _)
              have x0 := y.head; have x1 := y.tail.head; have x2 := y.tail.tail.head; have x3 := y.tail.tail.tail.head; have x4 := y.tail.tail.tail.tail.head; have x5 := y.tail.tail.tail.tail.tail.head; have x6 := y.tail.tail.tail.tail.tail.tail.head; have x7 := y.tail.tail.tail.tail.tail.tail.tail.head; have x8 := y.tail.tail.tail.tail.tail.tail.tail.tail.head; have x9 := y.tail.tail.tail.tail.tail.tail.tail.tail.tail.head
              clear y
              go_enter Tryz.func58, Tryz.ntmps58
              go_wp2_with fail
              rw [← HW.out]
              refine (B_n.out _ (Below.refl w0.heap.size w0)).mono ?_; rintro e w1 ⟨rfl, ha1⟩
              have hb1 := (Below.refl w0.heap.size w0).trans (ha1.mono (Below.refl w0.heap.size w0).size)
              clear x0 x1 x2 x3 x4 x5 x6 x7 x8 x9
              have hcc := HC.out.below hb1
              have x0 := hcc.head; have x1 := hcc.tail.head; have x2 := hcc.tail.tail.head; have x3 := hcc.tail.tail.tail.head; have x4 := hcc.tail.tail.tail.tail.head; have x5 := hcc.tail.tail.tail.tail.tail.head; have x6 := hcc.tail.tail.tail.tail.tail.tail.head; have x7 := hcc.tail.tail.tail.tail.tail.tail.tail.head; have x8 := hcc.tail.tail.tail.tail.tail.tail.tail.tail.head; have x9 := hcc.tail.tail.tail.tail.tail.tail.tail.tail.tail.head
              clear hcc
              go_wp2_with fail
              refine (B_d.out _ hb1).mono ?_; rintro e w2 ⟨rfl, ha2⟩
              have hb2 := hb1.trans (ha2.mono hb1.size)
              clear x0 x1 x2 x3 x4 x5 x6 x7 x8 x9
              have hcc := HC.out.below hb2
              have x0 := hcc.head; have x1 := hcc.tail.head; have x2 := hcc.tail.tail.head; have x3 := hcc.tail.tail.tail.head; have x4 := hcc.tail.tail.tail.tail.head; have x5 := hcc.tail.tail.tail.tail.tail.head; have x6 := hcc.tail.tail.tail.tail.tail.tail.head; have x7 := hcc.tail.tail.tail.tail.tail.tail.tail.head; have x8 := hcc.tail.tail.tail.tail.tail.tail.tail.tail.head; have x9 := hcc.tail.tail.tail.tail.tail.tail.tail.tail.tail.head
              clear hcc
              go_wp2_with fail
              refine (B_w.out _ hb2).mono ?_; rintro e ww ⟨rfl, rfl⟩
              go_wp2_with fail
              refine (B_f.out _ hb2).mono ?_; rintro e ww ⟨rfl, rfl⟩
              go_wp2_with fail
              refine (B_o.out _ hb2).mono ?_; rintro e ww ⟨rfl, rfl⟩
              go_wp2_with fail
              go_ret
              exact ⟨by rw [grtE, E_n.out, E_d.out, E_w.out, E_f.out, E_o.out, E_e.out]; rfl, hb0.trans (hb2.mono hb0.size)⟩
            · have E_e := Lib.hid e_e
              have ze := e_e
              clear e_e
              rcases (Bool.eq_false_or_eq_true (leqO up tq fr)).symm with e_q | e_q
              · have E_q := Lib.hid e_q
                have B_q := K_q.out
                rw [e_q] at B_q
                have B_q := Lib.hid B_q
                clear e_q
                have y := HC.out.below (Below.refl _ _)
                have x0 := y.head; have x1 := y.tail.head; have x2 := y.tail.tail.head; have x3 := y.tail.tail.tail.head; have x4 := y.tail.tail.tail.tail.head; have x5 := y.tail.tail.tail.tail.tail.head; have x6 := y.tail.tail.tail.tail.tail.tail.head; have x7 := y.tail.tail.tail.tail.tail.tail.tail.head; have x8 := y.tail.tail.tail.tail.tail.tail.tail.tail.head; have x9 := y.tail.tail.tail.tail.tail.tail.tail.tail.tail.head
                clear y
                go_enter Tryz.func58, Tryz.ntmps58
                go_wp2_with fail
                rw [← HW.out]
                refine (B_n.out _ (Below.refl w0.heap.size w0)).mono ?_; rintro e w1 ⟨rfl, ha1⟩
                have hb1 := (Below.refl w0.heap.size w0).trans (ha1.mono (Below.refl w0.heap.size w0).size)
                clear x0 x1 x2 x3 x4 x5 x6 x7 x8 x9
                have hcc := HC.out.below hb1
                have x0 := hcc.head; have x1 := hcc.tail.head; have x2 := hcc.tail.tail.head; have x3 := hcc.tail.tail.tail.head; have x4 := hcc.tail.tail.tail.tail.head; have x5 := hcc.tail.tail.tail.tail.tail.head; have x6 := hcc.tail.tail.tail.tail.tail.tail.head; have x7 := hcc.tail.tail.tail.tail.tail.tail.tail.head; have x8 := hcc.tail.tail.tail.tail.tail.tail.tail.tail.head; have x9 := hcc.tail.tail.tail.tail.tail.tail.tail.tail.tail.head
                clear hcc
                go_wp2_with fail
                refine (B_d.out _ hb1).mono ?_; rintro e w2 ⟨rfl, ha2⟩
                have hb2 := hb1.trans (ha2.mono hb1.size)
                clear x0 x1 x2 x3 x4 x5 x6 x7 x8 x9
                have hcc := HC.out.below hb2
                have x0 := hcc.head; have x1 := hcc.tail.head; have x2 := hcc.tail.tail.head; have x3 := hcc.tail.tail.tail.head; have x4 := hcc.tail.tail.tail.tail.head; have x5 := hcc.tail.tail.tail.tail.tail.head; have x6 := hcc.tail.tail.tail.tail.tail.tail.head; have x7 := hcc.tail.tail.tail.tail.tail.tail.tail.head; have x8 := hcc.tail.tail.tail.tail.tail.tail.tail.tail.head; have x9 := hcc.tail.tail.tail.tail.tail.tail.tail.tail.tail.head
                clear hcc
                go_wp2_with fail
                refine (B_w.out _ hb2).mono ?_; rintro e ww ⟨rfl, rfl⟩
                go_wp2_with fail
                refine (B_f.out _ hb2).mono ?_; rintro e ww ⟨rfl, rfl⟩
                go_wp2_with fail
                refine (B_o.out _ hb2).mono ?_; rintro e ww ⟨rfl, rfl⟩
                go_wp2_with fail
                first
                  | go_region_held3 (fun w' => w'.cell? ⟨bj, 1, none⟩ = some (.pointer (some ⟨bl, 0, none⟩)) ∧ w'.cell? ⟨w.heap.size, 2, none⟩ = some (.int .i64 fr) ∧ w'.cell? ⟨w.heap.size, 3, none⟩ = some (.int .i64 tq)) (first | exact ⟨x1, x7, x8⟩ | (go_split_ands; (repeat' apply And.intro) <;> assumption)) (first | (go_at_call 63; refine (B_q.out _ hb2.drew).mono ?_; rintro e ww ⟨rfl, rfl⟩))
                  | fail
                go_wp2_with fail
                go_ret
                exact ⟨by rw [grtE, E_n.out, E_d.out, E_w.out, E_f.out, E_o.out, E_e.out, E_q.out]; rfl, hb0.trans (hb2.drew.mono hb0.size)⟩
              · have E_q := Lib.hid e_q
                have B_q := K_q.out
                rw [e_q] at B_q
                have B_q := Lib.hid B_q
                clear e_q
                rcases (Bool.eq_false_or_eq_true (pathB pre)).symm with e_t | e_t
                · have E_t := Lib.hid e_t
                  have B_t := K_t.out
                  rw [e_t] at B_t
                  have B_t := Lib.hid B_t
                  clear e_t
                  have y := HC.out.below (Below.refl _ _)
                  have x0 := y.head; have x1 := y.tail.head; have x2 := y.tail.tail.head; have x3 := y.tail.tail.tail.head; have x4 := y.tail.tail.tail.tail.head; have x5 := y.tail.tail.tail.tail.tail.head; have x6 := y.tail.tail.tail.tail.tail.tail.head; have x7 := y.tail.tail.tail.tail.tail.tail.tail.head; have x8 := y.tail.tail.tail.tail.tail.tail.tail.tail.head; have x9 := y.tail.tail.tail.tail.tail.tail.tail.tail.tail.head
                  clear y
                  go_enter Tryz.func58, Tryz.ntmps58
                  go_wp2_with fail
                  rw [← HW.out]
                  refine (B_n.out _ (Below.refl w0.heap.size w0)).mono ?_; rintro e w1 ⟨rfl, ha1⟩
                  have hb1 := (Below.refl w0.heap.size w0).trans (ha1.mono (Below.refl w0.heap.size w0).size)
                  clear x0 x1 x2 x3 x4 x5 x6 x7 x8 x9
                  have hcc := HC.out.below hb1
                  have x0 := hcc.head; have x1 := hcc.tail.head; have x2 := hcc.tail.tail.head; have x3 := hcc.tail.tail.tail.head; have x4 := hcc.tail.tail.tail.tail.head; have x5 := hcc.tail.tail.tail.tail.tail.head; have x6 := hcc.tail.tail.tail.tail.tail.tail.head; have x7 := hcc.tail.tail.tail.tail.tail.tail.tail.head; have x8 := hcc.tail.tail.tail.tail.tail.tail.tail.tail.head; have x9 := hcc.tail.tail.tail.tail.tail.tail.tail.tail.tail.head
                  clear hcc
                  go_wp2_with fail
                  refine (B_d.out _ hb1).mono ?_; rintro e w2 ⟨rfl, ha2⟩
                  have hb2 := hb1.trans (ha2.mono hb1.size)
                  clear x0 x1 x2 x3 x4 x5 x6 x7 x8 x9
                  have hcc := HC.out.below hb2
                  have x0 := hcc.head; have x1 := hcc.tail.head; have x2 := hcc.tail.tail.head; have x3 := hcc.tail.tail.tail.head; have x4 := hcc.tail.tail.tail.tail.head; have x5 := hcc.tail.tail.tail.tail.tail.head; have x6 := hcc.tail.tail.tail.tail.tail.tail.head; have x7 := hcc.tail.tail.tail.tail.tail.tail.tail.head; have x8 := hcc.tail.tail.tail.tail.tail.tail.tail.tail.head; have x9 := hcc.tail.tail.tail.tail.tail.tail.tail.tail.tail.head
                  clear hcc
                  go_wp2_with fail
                  refine (B_w.out _ hb2).mono ?_; rintro e ww ⟨rfl, rfl⟩
                  go_wp2_with fail
                  refine (B_f.out _ hb2).mono ?_; rintro e ww ⟨rfl, rfl⟩
                  go_wp2_with fail
                  refine (B_o.out _ hb2).mono ?_; rintro e ww ⟨rfl, rfl⟩
                  go_wp2_with fail
                  first
                    | go_region_held3 (fun w' => w'.cell? ⟨bj, 1, none⟩ = some (.pointer (some ⟨bl, 0, none⟩)) ∧ w'.cell? ⟨w.heap.size, 2, none⟩ = some (.int .i64 fr) ∧ w'.cell? ⟨w.heap.size, 3, none⟩ = some (.int .i64 tq)) (first | exact ⟨x1, x7, x8⟩ | (go_split_ands; (repeat' apply And.intro) <;> assumption)) (first | (go_at_call 63; refine (B_q.out _ hb2.drew).mono ?_; rintro e ww ⟨rfl, rfl⟩))
                    | fail
                  go_wp2_with fail
                  refine (B_t.out _ hb2.drew).mono ?_; rintro e w3 ⟨rfl, ha3⟩
                  have hb3 := hb2.drew.trans (ha3.mono hb2.drew.size)
                  clear x0 x1 x2 x3 x4 x5 x6 x7 x8 x9
                  have hcc := HC.out.below hb3
                  have x0 := hcc.head; have x1 := hcc.tail.head; have x2 := hcc.tail.tail.head; have x3 := hcc.tail.tail.tail.head; have x4 := hcc.tail.tail.tail.tail.head; have x5 := hcc.tail.tail.tail.tail.tail.head; have x6 := hcc.tail.tail.tail.tail.tail.tail.head; have x7 := hcc.tail.tail.tail.tail.tail.tail.tail.head; have x8 := hcc.tail.tail.tail.tail.tail.tail.tail.tail.head; have x9 := hcc.tail.tail.tail.tail.tail.tail.tail.tail.tail.head
                  clear hcc
                  go_wp2_with fail
                  go_ret
                  exact ⟨by rw [grtE, E_n.out, E_d.out, E_w.out, E_f.out, E_o.out, E_e.out, E_q.out, E_t.out]; rfl, hb0.trans (hb3.mono hb0.size)⟩
                · have E_t := Lib.hid e_t
                  have B_t := K_t.out
                  rw [e_t] at B_t
                  have B_t := Lib.hid B_t
                  clear e_t
                  have y := HC.out.below (Below.refl _ _)
                  have x0 := y.head; have x1 := y.tail.head; have x2 := y.tail.tail.head; have x3 := y.tail.tail.tail.head; have x4 := y.tail.tail.tail.tail.head; have x5 := y.tail.tail.tail.tail.tail.head; have x6 := y.tail.tail.tail.tail.tail.tail.head; have x7 := y.tail.tail.tail.tail.tail.tail.tail.head; have x8 := y.tail.tail.tail.tail.tail.tail.tail.tail.head; have x9 := y.tail.tail.tail.tail.tail.tail.tail.tail.tail.head
                  clear y
                  go_enter Tryz.func58, Tryz.ntmps58
                  go_wp2_with fail
                  rw [← HW.out]
                  refine (B_n.out _ (Below.refl w0.heap.size w0)).mono ?_; rintro e w1 ⟨rfl, ha1⟩
                  have hb1 := (Below.refl w0.heap.size w0).trans (ha1.mono (Below.refl w0.heap.size w0).size)
                  clear x0 x1 x2 x3 x4 x5 x6 x7 x8 x9
                  have hcc := HC.out.below hb1
                  have x0 := hcc.head; have x1 := hcc.tail.head; have x2 := hcc.tail.tail.head; have x3 := hcc.tail.tail.tail.head; have x4 := hcc.tail.tail.tail.tail.head; have x5 := hcc.tail.tail.tail.tail.tail.head; have x6 := hcc.tail.tail.tail.tail.tail.tail.head; have x7 := hcc.tail.tail.tail.tail.tail.tail.tail.head; have x8 := hcc.tail.tail.tail.tail.tail.tail.tail.tail.head; have x9 := hcc.tail.tail.tail.tail.tail.tail.tail.tail.tail.head
                  clear hcc
                  go_wp2_with fail
                  refine (B_d.out _ hb1).mono ?_; rintro e w2 ⟨rfl, ha2⟩
                  have hb2 := hb1.trans (ha2.mono hb1.size)
                  clear x0 x1 x2 x3 x4 x5 x6 x7 x8 x9
                  have hcc := HC.out.below hb2
                  have x0 := hcc.head; have x1 := hcc.tail.head; have x2 := hcc.tail.tail.head; have x3 := hcc.tail.tail.tail.head; have x4 := hcc.tail.tail.tail.tail.head; have x5 := hcc.tail.tail.tail.tail.tail.head; have x6 := hcc.tail.tail.tail.tail.tail.tail.head; have x7 := hcc.tail.tail.tail.tail.tail.tail.tail.head; have x8 := hcc.tail.tail.tail.tail.tail.tail.tail.tail.head; have x9 := hcc.tail.tail.tail.tail.tail.tail.tail.tail.tail.head
                  clear hcc
                  go_wp2_with fail
                  refine (B_w.out _ hb2).mono ?_; rintro e ww ⟨rfl, rfl⟩
                  go_wp2_with fail
                  refine (B_f.out _ hb2).mono ?_; rintro e ww ⟨rfl, rfl⟩
                  go_wp2_with fail
                  refine (B_o.out _ hb2).mono ?_; rintro e ww ⟨rfl, rfl⟩
                  go_wp2_with fail
                  first
                    | go_region_held3 (fun w' => w'.cell? ⟨bj, 1, none⟩ = some (.pointer (some ⟨bl, 0, none⟩)) ∧ w'.cell? ⟨w.heap.size, 2, none⟩ = some (.int .i64 fr) ∧ w'.cell? ⟨w.heap.size, 3, none⟩ = some (.int .i64 tq)) (first | exact ⟨x1, x7, x8⟩ | (go_split_ands; (repeat' apply And.intro) <;> assumption)) (first | (go_at_call 63; refine (B_q.out _ hb2.drew).mono ?_; rintro e ww ⟨rfl, rfl⟩))
                    | fail
                  go_wp2_with fail
                  refine (B_t.out _ hb2.drew).mono ?_; rintro e w3 ⟨rfl, ha3⟩
                  have hb3 := hb2.drew.trans (ha3.mono hb2.drew.size)
                  clear x0 x1 x2 x3 x4 x5 x6 x7 x8 x9
                  have hcc := HC.out.below hb3
                  have x0 := hcc.head; have x1 := hcc.tail.head; have x2 := hcc.tail.tail.head; have x3 := hcc.tail.tail.tail.head; have x4 := hcc.tail.tail.tail.tail.head; have x5 := hcc.tail.tail.tail.tail.tail.head; have x6 := hcc.tail.tail.tail.tail.tail.tail.head; have x7 := hcc.tail.tail.tail.tail.tail.tail.tail.head; have x8 := hcc.tail.tail.tail.tail.tail.tail.tail.tail.head; have x9 := hcc.tail.tail.tail.tail.tail.tail.tail.tail.tail.head
                  clear hcc
                  go_wp2_with fail
                  go_ret
                  exact ⟨by rw [grtE, E_n.out, E_d.out, E_w.out, E_f.out, E_o.out, E_e.out, E_q.out, E_t.out]; rfl, hb0.trans (hb3.mono hb0.size)⟩
end Go.Proofs.YteblahoijolegaaGreatDoor
end
