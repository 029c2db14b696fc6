import Derived.Test.YteblahoijolegaaGreatDoorM22
import Derived.BigQuiet
import Derived.BigRegion
import Derived.ChangeAlike
import Derived.Deep.DeepCutAuto
import Derived.Deep.Light
import Derived.Deep.LoopGhost
import Derived.Deep.MidRow
import Derived.Deep.QuietTactic
import Derived.Deep.RegionHeld3
import Derived.Deep.WholeRow
import Derived.Defers
import Derived.Great.Walk
import Derived.Laws.BitsAllLaws
import Derived.Laws.CopyOwn
import Derived.Laws.EntriesVeiled
import Derived.Laws.LoneSync
import Derived.Laws.Pointers
import Derived.Laws.StructEq
import Derived.Lib.Hide
import Derived.Lib.LazyBuf
import Derived.Lib.SliceRun
import Derived.LoopIn
import Derived.LoopNIn
import Derived.Maps.AppendAt
import Derived.OwnWalkIn
import Derived.RangeFuncBox
import Derived.RangeFuncKeeps
import Derived.RangeFuncLeaves
import Derived.RangeFuncSeq
import Derived.RegionCalls
import Derived.RegionIn
import Derived.RegionTactic
import Derived.Shelf.Abstract
import Derived.TacticsInMore
import Derived.Test.YteblahoijolegaaGreatDoorShelf
import Derived.WalkKit
import Derived.WalkLawsBesides
import Derived.WalkSpells
import Derived.WideLaws
section
set_option linter.all false
namespace Go.Proofs.YteblahoijolegaaGreatDoor
open Go.RowKit

theorem latAt_set {w w' : World} {l b bu bd n k : Nat} {up down : List Nat} {hi : Int} {c : Array Value} {fz : Nat × Nat} (h : LatAt w l b bu bd n up down hi) (hk : w.heap[k]? = some (.cells c 120 fz)) (hw : Kept (fun x => x ≠ k) w w') : LatAt w' l b bu bd n up down hi := by
  have ne : ∀ (x : Nat) (c' : Array Value) (t : TypeId) (f' : Nat × Nat), w.heap[x]? = some (.cells c' t f') → t ≠ 120 → x ≠ k := by
    rintro x c' t f' h1 h2 rfl
    rw [h1] at hk; cases hk; exact h2 rfl
  obtain ⟨nma, cpn, jf, mf, lo, h1, h2⟩ := h.blk
  refine ⟨h.ord.kept hw (ne _ _ _ _ h.ord.blk (by decide)) (ne _ _ _ _ h.ord.up (by decide)) (ne _ _ _ _ h.ord.down (by decide)), nma, cpn, jf, mf, lo, ?_, h2⟩
  exact (hw.block l (Array.getElem?_eq_some_iff.1 h1).1 (ne _ _ _ _ h1 (by decide))).trans h1
set_option maxHeartbeats 4000000 in
set_option maxRecDepth 20000 in
theorem policy_Check {w : World} {q : PolPtr} {P : Pol} (h : PolAt w q P) (hz : P.Sized) (hdb : DbAt w) :
    Calls Tryz.prog 13 #[.agg (polCells q P)] w fun e w' => e = .returned (.int .i64 P.code) ∧ Below w.heap.size w w' := by
  obtain ⟨w0, hw0⟩ : ∃ w0 : World, w0 = w.alloc (.cells (polCells q P) 30) := ⟨_, rfl⟩
  have hb0 : Below w.heap.size w w0 := by rw [hw0]; (repeat first | exact Below.refl _ _ | assumption | refine Below.alloc ?_ (by simp; try omega) _ | refine Below.drew ?_ | refine Below.drewN ?_ _ | refine Below.setCell ?_ (by simp; try omega) _ | refine Below.trans ?_ (Below.mono (by assumption) (by simp; try omega)))
  have g1 : w0.heap[w.heap.size]? = some (.cells (polCells q P) 30) := by rw [hw0]; exact heap_new w _
  have hp0 := polBox_of g1
  simp only [PolBox, Nat.zero_add] at hp0
  have hlim := policy_limited hp0
  have hlt : w.heap.size < w0.heap.size := (Array.getElem?_eq_some_iff.1 g1).1
  have hsz0 : w0.heap.size = w.heap.size + 1 := by rw [hw0]; simp
  cases hl : P.lim
  · have hr : P.code = 5 := by rw [Pol.code, if_pos hl]
    rw [show limB P.nl P.nb P.ns P.nd P.nw P.nr P.nc P.ng P.na = false from hl] at hlim
    rw [hr]
    have HW := Lib.hid hw0; clear hw0
    clear h hz hp0 g1 hl hr
    simp only [polCells] at HW ⊢
    go_enter Tryz.func13, Tryz.ntmps13
    go_wp2_with fail
    rw [← HW.out]
    refine hlim.mono ?_
    rintro e w1 ⟨rfl, rfl⟩
    go_wp2_with fail
    go_ret
    exact ⟨rfl, hb0⟩
  · have hsm := P.small hl
    rw [show limB P.nl P.nb P.ns P.nd P.nw P.nr P.nc P.ng P.na = true from hl] at hlim
    have hcode : P.code = if P.mk1 ≠ 0 then P.mk1 else allE P.part 7 := by rw [Pol.code, if_neg (by rw [hl]; simp)]
    have HW := Lib.hid hw0; clear hw0
    have HH := Lib.hid h; clear h
    have HZ := Lib.hid hz; clear hz
    have HS := Lib.hid hsm; clear hsm
    have G1 := Lib.hid g1; clear g1
    have HP := Lib.hid hp0
    have pc0 := hp0.head; have pc1 := hp0.tail.head
    clear hp0 hl
    have HCode := Lib.hid hcode; clear hcode
    have HDB := Lib.hid hdb; clear hdb
    obtain ⟨w2, hw2⟩ : ∃ w2 : World, w2 = (w0.alloc (.cells #[.pointer (some ⟨w.heap.size, 0, none⟩), .pointer none] 120)).alloc (.cells #[.pointer (some ⟨w.heap.size + 1, 0, none⟩)] 118) := ⟨_, rfl⟩
    have hb2 : Below w0.heap.size w0 w2 := by rw [hw2]; (repeat first | exact Below.refl _ _ | assumption | refine Below.alloc ?_ (by simp; try omega) _ | refine Below.drew ?_ | refine Below.drewN ?_ _ | refine Below.setCell ?_ (by simp; try omega) _ | refine Below.trans ?_ (Below.mono (by assumption) (by simp; try omega)))
    have hb2w := hb0.trans (hb2.mono hb0.size)
    have j1 : w2.heap[w.heap.size + 1]? = some (.cells #[.pointer (some ⟨w.heap.size, 0, none⟩), .pointer none] 120) := by rw [hw2, ← hsz0]; (simp only [heap_drew, heap_allocs, World.size_alloc, if_true] <;> repeat (first | rw [if_pos (by omega)] | rw [if_neg (by omega)]))
    have v1 : w2.heap[w.heap.size + 2]? = some (.cells #[.pointer (some ⟨w.heap.size + 1, 0, none⟩)] 118) := by rw [hw2, show w.heap.size + 2 = w0.heap.size + 1 by omega]; (simp only [heap_drew, heap_allocs, World.size_alloc, if_true] <;> repeat (first | rw [if_pos (by omega)] | rw [if_neg (by omega)]))
    have hsz2 : w2.heap.size = w.heap.size + 3 := by rw [hw2]; simp [hsz0]
    have s0 := cell_of (o := 0) v1
    have s1 := (hb2.cell (cell_lt pc0)).trans pc0
    have s2 := (hb2.cell (cell_lt pc1)).trans pc1
    have s3 : w2.cell? ⟨w.heap.size + 1, 1, none⟩ = some (cellD w2 ⟨w.heap.size + 1, 1, none⟩) := cellD_of (v := .pointer none) (cell_of (o := 1) j1)
    have s4 : w2.frozen? ⟨w.heap.size + 1, 1, none⟩ = false := free_of j1
    have HSz := Lib.hid hsz2
    have J1 := Lib.hid j1; clear j1
    have V1 := Lib.hid v1; clear v1
    have HW2 := Lib.hid hw2; clear hw2
    have HMk := Lib.hid (show ∀ W, Below w.heap.size w W → Calls Tryz.prog 24 #[.slice q.a0 P.nl q.c0, .slice q.a1 P.nb q.c1] W (MkPost P.lab P.nl P.bel P.nb W) from fun W hW =>
      lat_Make (Nat.le_trans HS.out.nl (by omega)) (Nat.le_trans HS.out.nb (by omega)) HH.out.h0.cap HH.out.h0.nil HH.out.h0.spot (HH.out.h0.sl.below hW) (HH.out.h1.sl.below hW) (HDB.out.kept (kall hW) trivial))
    simp only [polCells] at HW ⊢
    by_cases hm : P.mk1 = 0
    · have hr : P.code = allE P.part 7 := by rw [HCode.out, if_neg (by simpa using hm)]
      have HR := Lib.hid hr
      have HM := Lib.hid hm
      clear hr hm
      go_enter Tryz.func13, Tryz.ntmps13
      go_wp2_with fail
      rw [← HW.out]
      refine hlim.mono ?_
      rintro e w1 ⟨rfl, rfl⟩
      go_wp2_with fail
      rw [← HW2.out]
      go_region_held3 (fun w' => w'.cell? ⟨w.heap.size + 1 + 1, 0, none⟩ = some (.pointer (some ⟨w.heap.size + 1, 0, none⟩)) ∧ w'.cell? ⟨w.heap.size, 0, none⟩ = some (.slice q.a0 P.nl q.c0) ∧ w'.cell? ⟨w.heap.size, 1, none⟩ = some (.slice q.a1 P.nb q.c1) ∧ w'.cell? ⟨w.heap.size + 1, 1, none⟩ = some (cellD w' ⟨w.heap.size + 1, 1, none⟩) ∧ w'.frozen? ⟨w.heap.size + 1, 1, none⟩ = false)
        (first | exact ⟨s0, s1, s2, s3, s4⟩ | (go_split_ands; exact ⟨(hbA.cell (cell_lt (by assumption))).trans (by assumption), (hbA.cell (cell_lt (by assumption))).trans (by assumption), (hbA.cell (cell_lt (by assumption))).trans (by assumption), cellD_below hbA (by assumption), frz1_below hbA (by assumption) (by assumption)⟩) | (go_split_ands; exact ⟨(cell_set_ne (by omega)).trans (by assumption), (cell_set_ne (by omega)).trans (by assumption), (cell_set_ne (by omega)).trans (by assumption), cellD_set (by assumption), by rw [World.frozen?_setCell]; assumption⟩))
        (first
          | (go_at_call 24; refine (HMk.out _ hb2w.drew).mono ?_; rintro e wA ⟨hbA, hcase⟩; obtain ⟨hcm, bl, b, bu, bd, up, down, rfl, hlat, hok, hll, hadd⟩ := hcase.resolve_left (fun h => h.1 HM.out); clear hcase))
      all_goals
        have hbw : Below w.heap.size w wA := hb2w.drew.trans (hbA.mono hb2w.drew.size)
        have hb2A : Below w2.heap.size w2 wA := (Below.refl _ w2).drew.trans (hbA.mono (Nat.le_refl _))
        have hJA := (hb2A.block _ (by have := HSz.out; omega)).trans J1.out
        have hVA := (hb2A.block _ (by have := HSz.out; omega)).trans V1.out
        have hPA := (HP.out.below hb2).below hb2A
        have hbf : Below w.heap.size w (wA.setCell ⟨w.heap.size + 1, 1, none⟩ (.pointer (some ⟨bl, 0, none⟩))) := hbw.setCell (by show w.heap.size ≤ w.heap.size + 1; omega) _
        obtain ⟨w3, hw3⟩ : ∃ w3 : World, w3 = wA.setCell ⟨w.heap.size + 1, 1, none⟩ (.pointer (some ⟨bl, 0, none⟩)) := ⟨_, rfl⟩
        have hk3 : Kept (fun k => k ≠ w.heap.size + 1) wA w3 := by rw [hw3]; exact (Kept.refl _ wA).setCell (by simp) _
        have hJ3 := heap_set (o := 1) (.pointer (some ⟨bl, 0, none⟩)) hJA
        rw [← hw3] at hJ3 hbf
        have hK : EnvK w3 w.heap.size (w.heap.size + 1) (w.heap.size + 2) bl b bu bd q P up down (lastOf (fullS down P.nl) 0 P.nl) := by
          have hup : P.up = up := by
            have : P.upO = some (up, down) := hadd
            rw [Pol.up, this]
          refine ⟨?_, cell_of (o := 0) hJ3, cell_of (o := 1) hJ3, hk3.cell (cell_of (o := 0) hVA) (by omega), HH.out.below hbf, latAt_set hlat hJA hk3, hok, HZ.out, HS.out, hup⟩
          have := hPA.kept hk3 (by intro x hx; simp only [List.mem_cons, List.not_mem_nil, or_false] at hx; rcases hx with rfl | rfl | rfl | rfl | rfl | rfl | rfl | rfl | rfl <;> dsimp only <;> omega)
          simpa [PolBox] using this
        have HK := Lib.hid hK
        have HBf := Lib.hid hbf
        have HW3 := Lib.hid hw3
        clear hK hbf hw3 hk3 hJ3 hJA hVA hPA hbA hb2A hbw hlat hok hadd hcm
        obtain ⟨w4, hw4⟩ : ∃ w4 : World, w4 = w3.alloc (.cells #[.func (.func 41) #[] #[.pointer (some ⟨w.heap.size, 0, none⟩), .pointer (some ⟨w.heap.size + 1 + 1, 0, none⟩)], .func (.func 44) #[] #[.pointer (some ⟨w.heap.size, 0, none⟩), .pointer (some ⟨w.heap.size + 1 + 1, 0, none⟩)], .func (.func 47) #[] #[.pointer (some ⟨w.heap.size, 0, none⟩), .pointer (some ⟨w.heap.size + 1 + 1, 0, none⟩)], .func (.func 50) #[] #[.pointer (some ⟨w.heap.size, 0, none⟩), .pointer (some ⟨w.heap.size + 1 + 1, 0, none⟩)], .func (.func 53) #[] #[.pointer (some ⟨w.heap.size, 0, none⟩), .pointer (some ⟨w.heap.size + 1 + 1, 0, none⟩)], .func (.func 56) #[] #[.pointer (some ⟨w.heap.size, 0, none⟩), .pointer (some ⟨w.heap.size + 1 + 1, 0, none⟩)], .func (.func 59) #[] #[.pointer (some ⟨w.heap.size, 0, none⟩), .pointer (some ⟨w.heap.size + 1 + 1, 0, none⟩)]] 123) := ⟨_, rfl⟩
        have hs3 : w3.heap.size = wA.heap.size := by rw [HW3.out]; simp [World.setCell]
        have hb4 : Below w3.heap.size w3 w4 := by rw [hw4]; (repeat first | exact Below.refl _ _ | assumption | refine Below.alloc ?_ (by simp; try omega) _ | refine Below.drew ?_ | refine Below.drewN ?_ _ | refine Below.setCell ?_ (by simp; try omega) _ | refine Below.trans ?_ (Below.mono (by assumption) (by simp; try omega)))
        have hg4 : w4.heap[wA.heap.size]? = some (.cells #[.func (.func 41) #[] #[.pointer (some ⟨w.heap.size, 0, none⟩), .pointer (some ⟨w.heap.size + 1 + 1, 0, none⟩)], .func (.func 44) #[] #[.pointer (some ⟨w.heap.size, 0, none⟩), .pointer (some ⟨w.heap.size + 1 + 1, 0, none⟩)], .func (.func 47) #[] #[.pointer (some ⟨w.heap.size, 0, none⟩), .pointer (some ⟨w.heap.size + 1 + 1, 0, none⟩)], .func (.func 50) #[] #[.pointer (some ⟨w.heap.size, 0, none⟩), .pointer (some ⟨w.heap.size + 1 + 1, 0, none⟩)], .func (.func 53) #[] #[.pointer (some ⟨w.heap.size, 0, none⟩), .pointer (some ⟨w.heap.size + 1 + 1, 0, none⟩)], .func (.func 56) #[] #[.pointer (some ⟨w.heap.size, 0, none⟩), .pointer (some ⟨w.heap.size + 1 + 1, 0, none⟩)], .func (.func 59) #[] #[.pointer (some ⟨w.heap.size, 0, none⟩), .pointer (some ⟨w.heap.size + 1 + 1, 0, none⟩)]] 123) := by rw [hw4, ← hs3]; exact heap_new w3 _
        have hf : ∀ k, k < 7 → w4.cell? ⟨wA.heap.size, k, none⟩ = some (.func (.func (partF k)) #[] #[.pointer (some ⟨w.heap.size, 0, none⟩), .pointer (some ⟨w.heap.size + 2, 0, none⟩)]) := by
          intro k hk
          rw [cell_of hg4]
          rcases (by omega : k = 0 ∨ k = 1 ∨ k = 2 ∨ k = 3 ∨ k = 4 ∨ k = 5 ∨ k = 6) with rfl | rfl | rfl | rfl | rfl | rfl | rfl <;> rfl
        have hbw4 := HBf.out.trans (hb4.mono HBf.out.size)
        have HB34 := Lib.hid hb4
        have HBw4 := Lib.hid hbw4
        have HF := Lib.hid hf
        have HW4 := Lib.hid hw4
        clear hb4 hg4 hf hw4 hbw4
        go_wp2_with fail
        rw [← HW3.out, ← HW4.out]
        go_loopg [34] 7 (fun r s34 wr => ∃ k : Nat, k ≤ 7 ∧ r = 7 - k ∧ s34 = .int .i64 k ∧ allF P.part r k = allE P.part 7 ∧ Below w4.heap.size w4 wr)
        case atStart => exact ⟨0, by omega, rfl, rfl, rfl, Below.refl _ _⟩
        case round =>
          obtain ⟨k, hk, rfl, rfl, he, hb⟩ := hrel
          by_cases hlt : k < 7
          · obtain ⟨r, hrr⟩ : ∃ r, 7 - k = r + 1 := ⟨7 - k - 1, by omega⟩
            rw [hrr, allF] at he
            have HE := Lib.hid he; clear he
            have HRR := Lib.hid hrr; clear hrr
            have hlt2 : (k : Int) < 7 := by omega
            have hk0 : (0 : Int) ≤ k := by omega
            have d0 := (hb.cell (cell_lt (HF.out k hlt))).trans (HF.out k hlt)
            have hpart := part_all ((HK.out.below HB34.out).below hb) k
            have eg := partF_enters k
            generalize partF k = g at d0 hpart eg
            have HP2 := Lib.hid hpart; clear hpart
            rcases Bool.eq_false_or_eq_true (P.part k == 0) with ef | ef
            · have E1 := Lib.hid (by simpa using ef : P.part k = 0); clear ef
              go_wp2_with fail
              refine HP2.out.mono ?_
              rintro e W1 ⟨rfl, hb2⟩
              rw [E1.out]
              have hb3 := hb.trans (hb2.mono hb.size)
              go_wp2_with fail
              go_roundg r
              case measure => have := HRR.out; omega
              case rel => exact ⟨k + 1, by omega, by have := HRR.out; omega, by go_num, by have := HE.out; rwa [if_pos E1.out] at this, hb3⟩
            · have ef2 := ef
              have E1 := Lib.hid (by simpa using ef2 : ¬ P.part k = 0); clear ef2
              have E2 := Lib.hid (by have := HE.out; rwa [if_neg E1.out] at this : P.part k = allE P.part 7)
              generalize P.part k = pk at HP2 E2 ef
              clear HE E1
              go_wp2_with fail
              refine HP2.out.mono ?_
              rintro e W1 ⟨rfl, hb2⟩
              have hb3 := HBw4.out.trans ((hb.trans (hb2.mono hb.size)).mono HBw4.out.size)
              go_wp2_with fail
              go_ret
              exact ⟨by rw [HR.out, ← E2.out]; rfl, hb3⟩
          · obtain rfl : k = 7 := by omega
            have hb3 := HBw4.out.trans (hb.mono HBw4.out.size)
            go_wp2_with fail
            go_ret
            rw [Nat.sub_self] at he
            exact ⟨by rw [HR.out, ← he]; rfl, hb3⟩
    · have hr : P.code = P.mk1 := by rw [HCode.out, if_pos hm]
      rw [hr]
      have HM := Lib.hid hm
      have hm2 : (mkCode P.lab P.nl P.bel P.nb == 0) = false := by simpa [Pol.mk1] using hm
      clear hr hm
      go_enter Tryz.func13, Tryz.ntmps13
      go_wp2_with fail
      rw [← HW.out]
      refine hlim.mono ?_
      rintro e w1 ⟨rfl, rfl⟩
      go_wp2_with fail
      rw [← HW2.out]
      go_region_held3 (fun w' => w'.cell? ⟨w.heap.size + 1 + 1, 0, none⟩ = some (.pointer (some ⟨w.heap.size + 1, 0, none⟩)) ∧ w'.cell? ⟨w.heap.size, 0, none⟩ = some (.slice q.a0 P.nl q.c0) ∧ w'.cell? ⟨w.heap.size, 1, none⟩ = some (.slice q.a1 P.nb q.c1) ∧ w'.cell? ⟨w.heap.size + 1, 1, none⟩ = some (cellD w' ⟨w.heap.size + 1, 1, none⟩) ∧ w'.frozen? ⟨w.heap.size + 1, 1, none⟩ = false)
        (first | exact ⟨s0, s1, s2, s3, s4⟩ | (go_split_ands; exact ⟨(hbA.cell (cell_lt (by assumption))).trans (by assumption), (hbA.cell (cell_lt (by assumption))).trans (by assumption), (hbA.cell (cell_lt (by assumption))).trans (by assumption), cellD_below hbA (by assumption), frz1_below hbA (by assumption) (by assumption)⟩) | (go_split_ands; exact ⟨(cell_set_ne (by omega)).trans (by assumption), (cell_set_ne (by omega)).trans (by assumption), (cell_set_ne (by omega)).trans (by assumption), cellD_set (by assumption), by rw [World.frozen?_setCell]; assumption⟩))
        (first
          | (go_at_call 24; refine (HMk.out _ hb2w.drew).mono ?_; rintro e wA ⟨hbA, hcase⟩; obtain ⟨hcm, rfl⟩ := hcase.resolve_right (fun h => HM.out h.1); clear hcase))
      all_goals
        have hbf : Below w.heap.size w (wA.setCell ⟨w.heap.size + 1, 1, none⟩ (.pointer none)) := (hb2w.drew.trans (hbA.mono hb2w.drew.size)).setCell (by show w.heap.size ≤ w.heap.size + 1; omega) _
        go_wp2_with fail
        go_ret
        exact ⟨rfl, hbf⟩
end Go.Proofs.YteblahoijolegaaGreatDoor
end
