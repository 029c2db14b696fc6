import Derived.Test.YteblahoijolegaaGreatDoorM34
import Derived.BigQuiet
import Derived.BigRegion
import Derived.ChangeAlike
import Derived.Deep.DeepCutAuto
import Derived.Deep.Light
import Derived.Deep.LoopGhost
import Derived.Deep.MidRow
import Derived.Deep.QuietTactic
import Derived.Deep.RegionHeld3
import Derived.Deep.WholeRow
import Derived.Defers
import Derived.Great.Walk
import Derived.Laws.BitsAllLaws
import Derived.Laws.CopyOwn
import Derived.Laws.EntriesVeiled
import Derived.Laws.LoneSync
import Derived.Laws.Pointers
import Derived.Laws.StructEq
import Derived.Lib.Hide
import Derived.Lib.LazyBuf
import Derived.Lib.SliceRun
import Derived.LoopIn
import Derived.LoopNIn
import Derived.Maps.AppendAt
import Derived.OwnWalkIn
import Derived.RangeFuncBox
import Derived.RangeFuncKeeps
import Derived.RangeFuncLeaves
import Derived.RangeFuncSeq
import Derived.RegionCalls
import Derived.RegionIn
import Derived.RegionTactic
import Derived.Shelf.Abstract
import Derived.TacticsInMore
import Derived.Test.YteblahoijolegaaGreatDoorShelf
import Derived.WalkKit
import Derived.WalkLawsBesides
import Derived.WalkSpells
import Derived.WideLaws
import Derived.Test.YteblahoijolegaaGreatDoorM22
import Derived.Test.YteblahoijolegaaGreatDoorM20
section
set_option linter.all false
namespace Go.Proofs.YteblahoijolegaaGreatDoor
open Go.RowKit

/-- how something leaves: its label, the grant's name -/
def leaveV (l : Int) (g : ByteArray) : Value := .agg #[.int .i64 l, .string g]
def lowV (P : Pol) (up : List Nat) (wk : Int) (p : ByteArray) (x y : Int) : Value :=
  if mayE P.nl P.nw wk x y ≠ 0 then .tuple #[leaveV 0 ⟨#[]⟩, .int .i64 (mayE P.nl P.nw wk x y)] else
  if sLeq P.nl up x y then .tuple #[leaveV x ⟨#[]⟩, .int .i64 0] else
  match fitIx P up wk p x y P.ng with
  | [] => .tuple #[leaveV 0 ⟨#[]⟩, .int .i64 160]
  | i :: _ => .tuple #[leaveV (P.grt i).2.2.2.1 (P.grt i).1, .int .i64 0]
theorem keepD2 {w : World} {b o o1 o2 : Nat} {v x y : Value} (h : w.cell? ⟨b, o, none⟩ = some v) : ((w.setCell ⟨b, o1, none⟩ x).setCell ⟨b, o2, none⟩ y).cell? ⟨b, o, none⟩ = some (cellD ((w.setCell ⟨b, o1, none⟩ x).setCell ⟨b, o2, none⟩ y) ⟨b, o, none⟩) := by
  obtain ⟨v1, h1⟩ := cell?_setCell_some (p := ⟨b, o1, none⟩) (x := x) h
  obtain ⟨v2, h2⟩ := cell?_setCell_some (p := ⟨b, o2, none⟩) (x := y) h1
  exact cellD_of h2
theorem frzD2 {w : World} {b o o1 o2 : Nat} {x y : Value} (h : w.frozen? ⟨b, o, none⟩ = false) : ((w.setCell ⟨b, o1, none⟩ x).setCell ⟨b, o2, none⟩ y).frozen? ⟨b, o, none⟩ = false := by
  rw [World.frozen?_setCell, World.frozen?_setCell]; exact h
section
variable {w : World} {s : Nat} {q : PolPtr} {P : Pol} {l b bu bd : Nat} {up down : List Nat} {hi : Int}
set_option maxHeartbeats 4000000 in
set_option maxRecDepth 20000 in
theorem grant_Lower (h : SnapAt w s q P l b bu bd up down hi) (wk : Int) (p : ByteArray) (x y : Int) :
    Calls Tryz.prog 15 #[.pointer (some ⟨s, 0, none⟩), .int .i64 wk, .string p, .int .i64 x, .int .i64 y] w fun e w' => e = .returned (lowV P up wk p x y) ∧ Below w.heap.size w w' := by
  obtain ⟨w0, hw0⟩ : ∃ w0 : World, w0 = w.alloc (.cells #[.int .i64 0, .string ⟨#[]⟩] 48) := ⟨_, rfl⟩
  have hb0 : Below w.heap.size w w0 := by rw [hw0]; (repeat first | exact Below.refl _ _ | assumption | refine Below.alloc ?_ (by simp; try omega) _ | refine Below.drew ?_ | refine Below.drewN ?_ _ | refine Below.setCell ?_ (by simp; try omega) _ | refine Below.trans ?_ (Below.mono (by assumption) (by simp; try omega)))
  have g1 : w0.heap[w.heap.size]? = some (.cells #[.int .i64 0, .string ⟨#[]⟩] 48) := by rw [hw0]; exact heap_new w _
  have hlt : w.heap.size < w0.heap.size := (Array.getElem?_eq_some_iff.1 g1).1
  have hf := grant_Fitting (h.below hb0) wk p x y
  have HF := Lib.hid hf; clear hf
  have HSn := Lib.hid (h.below hb0); clear h
  have HW := Lib.hid hw0; clear hw0
  have G1 := Lib.hid g1; clear g1
  by_cases hm : mayE P.nl P.nw wk x y = 0
  · have HM := Lib.hid hm; clear hm
    go_enter Tryz.func15, Tryz.ntmps15
    go_wp2_with fail
    rw [← HW.out]
    refine HF.out.mono ?_
    rintro e w1 ⟨hcase, hb1⟩
    obtain ⟨-, v, rfl, hown⟩ := hcase.resolve_left (fun h => h.1 HM.out)
    obtain ⟨ao, cp, rfl⟩ : ∃ ao cp, v = .slice ao (fitIx P up wk p x y P.ng).length cp := by
      rcases hown.2 with ⟨h1, h2⟩ | ⟨g, cap, cur, h1, _⟩
      · exact ⟨none, 0, by rw [h1, h2]⟩
      · exact ⟨_, _, h1⟩
    have hlq := snap_Leq (HSn.out.below hb1) x y
    have HLq := Lib.hid hlq; clear hlq
    have hg1 := (hb1.block _ hlt).trans G1.out
    have r0 := cell_of (o := 0) hg1
    have r1 := cell_of (o := 1) hg1
    have f0 : ∀ k, w1.frozen? ⟨w.heap.size, k, none⟩ = false := fun k => free_of hg1
    have HO := Lib.hid hown; clear hown hcase
    cases hq : sLeq P.nl up x y
    · rw [hq] at HLq
      have HQ := Lib.hid hq; clear hq
      cases hL : fitIx P up wk p x y P.ng with
      | nil =>
        have HL := Lib.hid hL; clear hL
        simp only [List.length_nil]
        obtain ⟨wz, hwz⟩ : ∃ wz : World, wz = (w1.setCell ⟨w.heap.size, 0, none⟩ (.int .i64 (0))).setCell ⟨w.heap.size, 1, none⟩ (.string (⟨#[]⟩)) := ⟨_, rfl⟩
        have hz : wz.heap[w.heap.size]? = some (.cells #[.int .i64 (0), .string (⟨#[]⟩)] 48) := by rw [hwz]; exact heap_set (o := 1) _ (heap_set (o := 0) _ hg1)
        have z0 := cell_of (o := 0) hz
        have z1 := cell_of (o := 1) hz
        have hbz : Below w.heap.size w wz := by rw [hwz]; exact ((hb0.trans (hb1.mono hb0.size)).setCell (Nat.le_refl _) _).setCell (Nat.le_refl _) _
        go_wp2_with fail
        refine HLq.out.mono ?_
        rintro e w2 ⟨rfl, rfl⟩
        go_wp2_with fail
        rw [← hwz]
        refine bodyPost_ret (v := .tuple #[leaveV (0) (⟨#[]⟩), .int .i64 160]) ?_ rfl ?_
        · simp [results, Tryz.results15, go_sem, z0, z1, leaveV]
        · exact ⟨by rw [lowV, if_neg (by simpa using HM.out), HQ.out, HL.out]; rfl, hbz⟩
      | cons i r =>
        have hown := HO.out
        rw [hL] at hown
        rcases hown.2 with ⟨h1, h2⟩ | ⟨g, cap, cur, h1, hge, _⟩
        · simp at h2
        cases h1
        have HL := Lib.hid hL; clear hL
        have a0 : w1.cell? ⟨g, 0, none⟩ = some (.string (P.grt i).1) := hown.cells (g := g) rfl 0 _ (by simp [grtRow, grtCells])
        have a3 : w1.cell? ⟨g, 3, none⟩ = some (.int .i64 (P.grt i).2.2.2.1) := hown.cells (g := g) rfl 3 _ (by simp [grtRow, grtCells])
        have hgB : g ≠ w.heap.size := by omega
        have s0 := cellD_of r0
        have s1 := cellD_of r1
        have q0 := f0 0
        have q1 := f0 1
        have hln : (((r.length + 1 : Nat) : Int) == 0) = false := by simp; omega
        have hlp : (0 : Int) < ((r.length + 1 : Nat) : Int) := by omega
        simp only [List.length_cons]
        obtain ⟨wz, hwz⟩ : ∃ wz : World, wz = ((w1.setCell ⟨w.heap.size, 0, none⟩ (.int .i64 (P.grt i).2.2.2.1)).setCell ⟨w.heap.size, 1, none⟩ (.string (P.grt i).1)).drew := ⟨_, rfl⟩
        have hz : wz.heap[w.heap.size]? = some (.cells #[.int .i64 (P.grt i).2.2.2.1, .string (P.grt i).1] 48) := by rw [hwz]; exact heap_set (o := 1) _ (heap_set (o := 0) _ hg1)
        have z0 := cell_of (o := 0) hz
        have z1 := cell_of (o := 1) hz
        have hbz : Below w.heap.size w wz := by rw [hwz]; exact (((hb0.trans (hb1.mono hb0.size)).setCell (Nat.le_refl _) _).setCell (Nat.le_refl _) _).drew
        go_wp2_with fail
        refine HLq.out.mono ?_
        rintro e w2 ⟨rfl, rfl⟩
        go_wp2_with fail
        go_region_held3 (fun w' => w'.cell? ⟨g, 0, none⟩ = some (.string (P.grt i).1) ∧ w'.cell? ⟨g, 3, none⟩ = some (.int .i64 (P.grt i).2.2.2.1) ∧ w'.cell? ⟨w.heap.size, 0, none⟩ = some (cellD w' ⟨w.heap.size, 0, none⟩) ∧ w'.cell? ⟨w.heap.size, 1, none⟩ = some (cellD w' ⟨w.heap.size, 1, none⟩) ∧ w'.frozen? ⟨w.heap.size, 0, none⟩ = false ∧ w'.frozen? ⟨w.heap.size, 1, none⟩ = false)
          (first | exact ⟨a0, a3, s0, s1, q0, q1⟩ | (go_split_ands; exact ⟨(cell_set_ne hgB).trans ((cell_set_ne hgB).trans (by assumption)), (cell_set_ne hgB).trans ((cell_set_ne hgB).trans (by assumption)), keepD2 (by assumption), keepD2 (by assumption), frzD2 (by assumption), frzD2 (by assumption)⟩))
          (fail)
        all_goals
          go_wp2_with fail
          rw [← hwz]
          refine bodyPost_ret (v := .tuple #[leaveV (P.grt i).2.2.2.1 (P.grt i).1, .int .i64 0]) ?_ rfl ?_
          · simp [results, Tryz.results15, go_sem, z0, z1, leaveV]
          · exact ⟨by rw [lowV, if_neg (by simpa using HM.out), HQ.out, HL.out]; rfl, hbz⟩
    · rw [hq] at HLq
      have HQ := Lib.hid hq; clear hq
      obtain ⟨wz, hwz⟩ : ∃ wz : World, wz = (w1.setCell ⟨w.heap.size, 0, none⟩ (.int .i64 (x))).setCell ⟨w.heap.size, 1, none⟩ (.string (⟨#[]⟩)) := ⟨_, rfl⟩
      have hz : wz.heap[w.heap.size]? = some (.cells #[.int .i64 (x), .string (⟨#[]⟩)] 48) := by rw [hwz]; exact heap_set (o := 1) _ (heap_set (o := 0) _ hg1)
      have z0 := cell_of (o := 0) hz
      have z1 := cell_of (o := 1) hz
      have hbz : Below w.heap.size w wz := by rw [hwz]; exact ((hb0.trans (hb1.mono hb0.size)).setCell (Nat.le_refl _) _).setCell (Nat.le_refl _) _
      go_wp2_with fail
      refine HLq.out.mono ?_
      rintro e w2 ⟨rfl, rfl⟩
      go_wp2_with fail
      rw [← hwz]
      refine bodyPost_ret (v := .tuple #[leaveV (x) (⟨#[]⟩), .int .i64 0]) ?_ rfl ?_
      · simp [results, Tryz.results15, go_sem, z0, z1, leaveV]
      · exact ⟨by rw [lowV, if_neg (by simpa using HM.out), HQ.out]; rfl, hbz⟩
  · have HM := Lib.hid hm
    have hm2 : (mayE P.nl P.nw wk x y == 0) = false := by simpa using hm
    clear hm
    go_enter Tryz.func15, Tryz.ntmps15
    go_wp2_with fail
    rw [← HW.out]
    refine HF.out.mono ?_
    rintro e w1 ⟨hcase, hb1⟩
    obtain ⟨-, rfl⟩ := hcase.resolve_right (fun h => HM.out h.1)
    have hg1 := (hb1.block _ hlt).trans G1.out
    have r0 := cell_of (o := 0) hg1
    have r1 := cell_of (o := 1) hg1
    have f0 : ∀ k, w1.frozen? ⟨w.heap.size, k, none⟩ = false := fun k => free_of hg1
    obtain ⟨wz, hwz⟩ : ∃ wz : World, wz = (w1.setCell ⟨w.heap.size, 0, none⟩ (.int .i64 0)).setCell ⟨w.heap.size, 1, none⟩ (.string ⟨#[]⟩) := ⟨_, rfl⟩
    have hz : wz.heap[w.heap.size]? = some (.cells #[.int .i64 0, .string ⟨#[]⟩] 48) := by rw [hwz]; exact heap_set (o := 1) _ (heap_set (o := 0) _ hg1)
    have z0 := cell_of (o := 0) hz
    have z1 := cell_of (o := 1) hz
    have hbz : Below w.heap.size w wz := by rw [hwz]; exact ((hb0.trans (hb1.mono hb0.size)).setCell (Nat.le_refl _) _).setCell (Nat.le_refl _) _
    go_wp2_with fail
    rw [← hwz]
    refine bodyPost_ret (v := .tuple #[leaveV 0 ⟨#[]⟩, .int .i64 (mayE P.nl P.nw wk x y)]) ?_ rfl ?_
    · simp [results, Tryz.results15, go_sem, z0, z1, leaveV]
    · exact ⟨by rw [lowV, if_pos HM.out], hbz⟩
end
end Go.Proofs.YteblahoijolegaaGreatDoor
end
section
set_option linter.all false
namespace Go.Proofs.YteblahoijolegaaGreatDoor
open Go.RowKit

theorem run_eq_leave (d : Nat) (a b : Int) (s t : ByteArray) (w : World) : (Op.equalIn (d + 2) 48 (.agg #[.int .i64 a, .string s]) (.agg #[.int .i64 b, .string t])).run Tryz.prog w = .ok (a == b && s.toList == t.toList) w := by
  rw [run_equalIn_struct w (d + 1) _ _ _ (by kernel_rfl) (by kernel_rfl)]
  have hs : ∀ (a b : ByteArray) (w : World), (Op.equalIn (d + 1) 9 (.string a) (.string b)).run Tryz.prog w = .ok (a.toList == b.toList) w := fun a b w => run_equalIn_string w d _ a b Tryz.underlying9
  have hi : ∀ (a b : Int) (w : World), (Op.equalIn (d + 1) 46 (.int .i64 a) (.int .i64 b)).run Tryz.prog w = .ok (a == b) w := fun a b w => run_equalIn_int w d _ .i64 .i64 a b Tryz.underlying46
  have a1 : ∀ w, (isAgg 9).run Tryz.prog w = .ok false w := Tryz.isAgg9
  have a2 : ∀ w, (isAgg 46).run Tryz.prog w = .ok false w := Tryz.isAgg46
  simp only [Program.fieldsOf, Tryz.underlying48]
  simp only [Op.eqFields, part, Sem.run_bind, a1, a2, hs, hi]
  simp [a1, a2, hs, hi]
  by_cases h1 : s.toList = t.toList <;> by_cases h3 : a = b <;> simp [*]
def lvB (tq : Int) (name : ByteArray) (g : ByteArray × Int × Int × Int × ByteArray) : Bool := tq == g.2.2.2.1 && name.toList == g.1.toList
def toldF (P : Pol) (up : List Nat) (name : ByteArray) (fr tq : Int) : Nat → Nat → Bool
  | 0, _ => false
  | r + 1, i => if lvB tq name (P.grt i) then sLeq P.nl up fr (P.grt i).2.2.1 && sLeq P.nl up tq fr else toldF P up name fr tq r (i + 1)
def toldB (P : Pol) (up : List Nat) (name : ByteArray) (fr tq : Int) : Bool := toldF P up name fr tq P.ng 0
section
variable {w : World} {s : Nat} {q : PolPtr} {P : Pol} {l b bu bd : Nat} {up down : List Nat} {hi : Int}
set_option maxHeartbeats 4000000 in
set_option maxRecDepth 20000 in
theorem grant_Told (h : SnapAt w s q P l b bu bd up down hi) (name : ByteArray) (x y : Int) :
    Calls Tryz.prog 17 #[.pointer (some ⟨s, 0, none⟩), .string name, .int .i64 x, .int .i64 y] w fun e w' => e = .returned (.bool (toldB P up name x y)) ∧ Below w.heap.size w w' := by
  obtain ⟨w0, hw0⟩ : ∃ w0 : World, w0 = w.alloc (.cells #[.int .i64 y, .string name] 48) := ⟨_, rfl⟩
  have hb0 : Below w.heap.size w w0 := by rw [hw0]; (repeat first | exact Below.refl _ _ | assumption | refine Below.alloc ?_ (by simp; try omega) _ | refine Below.drew ?_ | refine Below.drewN ?_ _ | refine Below.setCell ?_ (by simp; try omega) _ | refine Below.trans ?_ (Below.mono (by assumption) (by simp; try omega)))
  have g1 : w0.heap[w.heap.size]? = some (.cells #[.int .i64 y, .string name] 48) := by rw [hw0]; exact heap_new w _
  have hpol := snap_Policy (h.below hb0)
  have hsm := h.small.ng
  have HSn := Lib.hid (h.below hb0); clear h
  have HW := Lib.hid hw0; clear hw0
  have G1 := Lib.hid g1; clear g1
  have hfd := pol_field7
  go_enter Tryz.func17, Tryz.ntmps17
  go_wp2_with fail
  rw [← HW.out]
  refine hpol.mono ?_
  rintro e w2 ⟨⟨q', rfl, hq⟩, hb2⟩
  obtain ⟨a0, a1, a2, a3, a4, a5, a6, a7, a8, k0, k1, k2, k3, k4, k5, k6, k7, k8⟩ := q'
  have HQ := Lib.hid hq.h7; clear hq
  have hS2 := HSn.out.below hb2
  have HS2 := Lib.hid hS2; clear hS2
  have hgw := (hb2.block _ (Array.getElem?_eq_some_iff.1 G1.out).1).trans G1.out
  have HGW := Lib.hid hgw; clear hgw
  have hbw2 := hb0.trans (hb2.mono hb0.size)
  have HBW := Lib.hid hbw2
  clear hb2 hbw2 hpol
  simp only [polCells]
  go_wp2_with fail
  go_loopg [19] P.ng (fun r s19 wr => ∃ i : Nat, i ≤ P.ng ∧ r = P.ng - i ∧ s19 = .int .i64 i ∧ toldF P up name x y r i = toldB P up name x y ∧ Below w2.heap.size w2 wr)
  case atStart => exact ⟨0, by omega, rfl, rfl, rfl, Below.refl _ _⟩
  case round =>
    obtain ⟨i, hi, rfl, rfl, he, hb⟩ := hrel
    by_cases hlt : i < P.ng
    · obtain ⟨a, off, rfl, hcs⟩ := ((HQ.out.below hb).sl).resolve_left (by omega)
      obtain ⟨r, hrr⟩ : ∃ r, P.ng - i = r + 1 := ⟨P.ng - i - 1, by omega⟩
      rw [hrr, toldF] at he
      have HRR := Lib.hid hrr; clear hrr
      have hlt2 : (i : Int) < P.ng := by omega
      have d0 : wr.cell? ⟨a, off + i * 5, none⟩ = some (.string (P.grt i).1) := by have := hcs i hlt 0 (by omega); simpa [grC] using this
      have d1 : wr.cell? ⟨a, off + i * 5 + 1, none⟩ = some (.int .i64 (P.grt i).2.1) := by have := hcs i hlt 1 (by omega); simpa [grC] using this
      have d2 : wr.cell? ⟨a, off + i * 5 + 2, none⟩ = some (.int .i64 (P.grt i).2.2.1) := by have := hcs i hlt 2 (by omega); simpa [grC] using this
      have d3 : wr.cell? ⟨a, off + i * 5 + 3, none⟩ = some (.int .i64 (P.grt i).2.2.2.1) := by have := hcs i hlt 3 (by omega); simpa [grC] using this
      have d4 : wr.cell? ⟨a, off + i * 5 + 4, none⟩ = some (.string (P.grt i).2.2.2.2) := by have := hcs i hlt 4 (by omega); simpa [grC] using this
      clear hcs
      have hgr := (hb.block _ (Array.getElem?_eq_some_iff.1 HGW.out).1).trans HGW.out
      obtain ⟨wl, hwl⟩ : ∃ wl : World, wl = wr.alloc (.cells #[.string (P.grt i).1, .int .i64 (P.grt i).2.1, .int .i64 (P.grt i).2.2.1, .int .i64 (P.grt i).2.2.2.1, .string (P.grt i).2.2.2.2] 53) := ⟨_, rfl⟩
      have hbl : Below wr.heap.size wr wl := by rw [hwl]; (repeat first | exact Below.refl _ _ | assumption | refine Below.alloc ?_ (by simp; try omega) _ | refine Below.drew ?_ | refine Below.drewN ?_ _ | refine Below.setCell ?_ (by simp; try omega) _ | refine Below.trans ?_ (Below.mono (by assumption) (by simp; try omega)))
      have hgl := (hbl.block _ (Array.getElem?_eq_some_iff.1 hgr).1).trans hgr
      have u0 := cell_of (o := 0) hgl; have u1 := cell_of (o := 1) hgl
      rw [hwl] at u0 u1
      have hbw := hb.trans (hbl.mono hb.size)
      have hl1 := snap_Leq (HS2.out.below hbw) x (P.grt i).2.2.1
      have hl2 := snap_Leq (HS2.out.below hbw) y x
      have heq := fun w => run_eq_leave 9998 y (P.grt i).2.2.2.1 name (P.grt i).1 w
      have hlv : lvB y name (P.grt i) = (y == (P.grt i).2.2.2.1 && name.toList == (P.grt i).1.toList) := rfl
      have HWl := Lib.hid hwl; clear hwl hgl hgr hbl hb
      have hbz := HBW.out.trans (hbw.mono HBW.out.size)
      cases hb2 : (y == (P.grt i).2.2.2.1 && name.toList == (P.grt i).1.toList)
      · rw [hb2] at hlv
        simp only [hb2] at heq
        rw [hlv] at he
        have HE := Lib.hid he; clear he hb2 hlv
        go_wp2_with fail
        rw [← HWl.out]
        go_roundg r
        case measure => have := HRR.out; omega
        case rel => exact ⟨i + 1, by omega, by have := HRR.out; omega, by go_num, by simpa using HE.out, hbw⟩
      · rw [hb2] at hlv
        simp only [hb2] at heq
        rw [hlv] at he
        simp only [if_true] at he
        have HE := Lib.hid he; clear he hb2 hlv
        cases h1 : sLeq P.nl up x (P.grt i).2.2.1
        · rw [h1] at hl1
          have H1 := Lib.hid h1; clear h1
          go_wp2_with fail
          rw [← HWl.out]
          refine hl1.mono ?_
          rintro e w3 ⟨rfl, rfl⟩
          go_wp2_with fail
          go_ret
          exact ⟨by rw [← HE.out, H1.out]; rfl, hbz⟩
        · rw [h1] at hl1
          have H1 := Lib.hid h1; clear h1
          go_wp2_with fail
          rw [← HWl.out]
          refine hl1.mono ?_
          rintro e w3 ⟨rfl, rfl⟩
          go_wp2_with fail
          refine hl2.mono ?_
          rintro e w3 ⟨rfl, rfl⟩
          go_wp2_with fail
          go_ret
          exact ⟨by rw [← HE.out, H1.out]; rfl, hbz⟩
    · obtain rfl : i = P.ng := by omega
      have hbf := HBW.out.trans (hb.mono HBW.out.size)
      rw [Nat.sub_self] at he
      have HE := Lib.hid he; clear he
      go_wp2_with fail
      go_ret
      exact ⟨by rw [← HE.out]; rfl, hbf⟩
end
end Go.Proofs.YteblahoijolegaaGreatDoor
end
section
set_option linter.all false
namespace Go.Proofs.YteblahoijolegaaGreatDoor
open Go.RowKit

/-- a question, as a value -/
def askV (wk l c : Int) (p n : ByteArray) : Value := .agg #[.int .i64 wk, .int .i64 l, .int .i64 c, .string p, .string n]
/-- what Lower answers, part by part -/
def lowT (P : Pol) (up : List Nat) (wk : Int) (p : ByteArray) (x y : Int) : Int × ByteArray × Int :=
  if mayE P.nl P.nw wk x y ≠ 0 then (0, ⟨#[]⟩, mayE P.nl P.nw wk x y) else
  if sLeq P.nl up x y then (x, ⟨#[]⟩, 0) else
  match fitIx P up wk p x y P.ng with
  | [] => (0, ⟨#[]⟩, 160)
  | i :: _ => ((P.grt i).2.2.2.1, (P.grt i).1, 0)
theorem lowV_eq (P : Pol) (up : List Nat) (wk : Int) (p : ByteArray) (x y : Int) : lowV P up wk p x y = .tuple #[.agg #[.int .i64 (lowT P up wk p x y).1, .string (lowT P up wk p x y).2.1], .int .i64 (lowT P up wk p x y).2.2] := by
  unfold lowV lowT
  split
  · rfl
  · split
    · rfl
    · cases fitIx P up wk p x y P.ng <;> rfl
def lwsB (P : Pol) (up : List Nat) (wk : Int) (p : ByteArray) (x y wl : Int) (wg : ByteArray) (e : Int) : Bool :=
  ((lowT P up wk p x y).1 == wl && (lowT P up wk p x y).2.1.toList == wg.toList) && (lowT P up wk p x y).2.2 == e
theorem heap_keep {w : World} {o v : Obj} {k : Nat} (h : w.heap[k]? = some v) : (w.alloc o).heap[k]? = some v := (Below.heap_alloc _ _ _ (Array.getElem?_eq_some_iff.1 h).1).trans h
section
variable {w : World} {s : Nat} {q : PolPtr} {P : Pol} {l b bu bd : Nat} {up down : List Nat} {hi : Int}
set_option maxHeartbeats 4000000 in
set_option maxRecDepth 20000 in
theorem law_lowers (h : SnapAt w s q P l b bu bd up down hi) (wk x y : Int) (p n : ByteArray) (wl : Int) (wg : ByteArray) (ec : Int) :
    Calls Tryz.prog 20 #[.pointer (some ⟨s, 0, none⟩), askV wk x y p n, .agg #[.int .i64 wl, .string wg], .int .i64 ec] w fun e w' => e = .returned (.bool (lwsB P up wk p x y wl wg ec)) ∧ Below w.heap.size w w' := by
  obtain ⟨w0, hw0⟩ : ∃ w0 : World, w0 = (w.alloc (.cells #[.int .i64 wk, .int .i64 x, .int .i64 y, .string p, .string n] 41)).alloc (.cells #[.int .i64 wl, .string wg] 48) := ⟨_, rfl⟩
  have hb0 : Below w.heap.size w w0 := by rw [hw0]; (repeat first | exact Below.refl _ _ | assumption | refine Below.alloc ?_ (by simp; try omega) _ | refine Below.drew ?_ | refine Below.drewN ?_ _ | refine Below.setCell ?_ (by simp; try omega) _ | refine Below.trans ?_ (Below.mono (by assumption) (by simp; try omega)))
  have g1 : w0.heap[w.heap.size + 1]? = some (.cells #[.int .i64 wl, .string wg] 48) := by rw [hw0]; (simp only [heap_drew, heap_allocs, World.size_alloc, if_true] <;> repeat (first | rw [if_pos (by omega)] | rw [if_neg (by omega)]))
  have hL := grant_Lower (h.below hb0) wk p x y
  rw [lowV_eq] at hL
  have heq := fun w => run_eq_leave 9998 (lowT P up wk p x y).1 wl (lowT P up wk p x y).2.1 wg w
  have hr : lwsB P up wk p x y wl wg ec = (((lowT P up wk p x y).1 == wl && (lowT P up wk p x y).2.1.toList == wg.toList) && (lowT P up wk p x y).2.2 == ec) := rfl
  rw [hr]
  generalize (lowT P up wk p x y).1 = L1 at hL heq ⊢
  generalize (lowT P up wk p x y).2.1 = L2 at hL heq ⊢
  generalize (lowT P up wk p x y).2.2 = L3 at hL ⊢
  have HL := Lib.hid hL; clear hL
  have HW := Lib.hid hw0; clear hw0
  have G1 := Lib.hid g1; clear g1
  have HB0 := Lib.hid hb0
  clear hr h
  simp only [askV]
  cases e1 : (L1 == wl && L2.toList == wg.toList)
  · simp only [e1] at heq
    clear e1
    go_enter Tryz.func20, Tryz.ntmps20
    go_wp2_with fail
    rw [← HW.out]
    refine HL.out.mono ?_
    rintro e w1 ⟨rfl, hb1⟩
    have hg1 := (hb1.block _ (Array.getElem?_eq_some_iff.1 G1.out).1).trans G1.out
    have hg2 := heap_keep (o := .cells #[.int .i64 L1, .string L2] 48) hg1
    have r0 := cell_of (o := 0) hg2
    have r1 := cell_of (o := 1) hg2
    clear hg1 hg2
    have hbz := (HB0.out.trans (hb1.mono HB0.out.size)).alloc (Nat.le_trans HB0.out.size hb1.size) (.cells #[.int .i64 L1, .string L2] 48)
    have HBZ := Lib.hid hbz; clear hbz
    go_wp2_with fail
    go_ret
    exact ⟨rfl, HBZ.out⟩
  · simp only [e1] at heq
    clear e1
    go_enter Tryz.func20, Tryz.ntmps20
    go_wp2_with fail
    rw [← HW.out]
    refine HL.out.mono ?_
    rintro e w1 ⟨rfl, hb1⟩
    have hg1 := (hb1.block _ (Array.getElem?_eq_some_iff.1 G1.out).1).trans G1.out
    have hg2 := heap_keep (o := .cells #[.int .i64 L1, .string L2] 48) hg1
    have r0 := cell_of (o := 0) hg2
    have r1 := cell_of (o := 1) hg2
    clear hg1 hg2
    have hbz := (HB0.out.trans (hb1.mono HB0.out.size)).alloc (Nat.le_trans HB0.out.size hb1.size) (.cells #[.int .i64 L1, .string L2] 48)
    have HBZ := Lib.hid hbz; clear hbz
    go_wp2_with fail
    go_ret
    exact ⟨by simp, HBZ.out⟩
end
end Go.Proofs.YteblahoijolegaaGreatDoor
end
section
set_option linter.all false
namespace Go.Proofs.YteblahoijolegaaGreatDoor
open Go.RowKit

def bringI (i : Int) (n : Nat) : Int := if Int.tmod i n < 0 then Int.tmod i n + n else Int.tmod i n
theorem bringI_range {i : Int} {n : Nat} (hn : 1 ≤ n) : labB n (bringI i n) = true := by
  have h1 : Int.tmod i n < n := Int.tmod_lt_of_pos i (by omega)
  have h2 : -(n : Int) < Int.tmod i n := by
    have := Int.tmod_lt_of_pos (-i) (b := (n : Int)) (by omega)
    rw [Int.neg_tmod] at this
    omega
  refine decide_eq_true ?_
  unfold bringI
  split <;> omega
theorem ref_Bring (i : Int) (n : Nat) (h1 : 1 ≤ n) (h2 : n ≤ 1000) (w : World) : Calls Tryz.prog 22 #[.int .i64 i, .int .i64 n] w fun e w' => e = .returned (.int .i64 (bringI i n)) ∧ w = w' := by
  have hn0 : ((n : Int) == 0) = false := by simp; omega
  have hn1 : ¬ (n : Int) = 0 := by omega
  have k1 : Int.tmod i n < n := Int.tmod_lt_of_pos i (by omega)
  have k2 : -(n : Int) < Int.tmod i n := by
    have := Int.tmod_lt_of_pos (-i) (b := (n : Int)) (by omega)
    rw [Int.neg_tmod] at this
    omega
  by_cases hneg : Int.tmod i n < 0
  · have hr : bringI i n = Int.tmod i n + n := by rw [bringI, if_pos hneg]
    have hw : wrap64 (Int.tmod i n + n) = Int.tmod i n + n := by unfold wrap64; omega
    rw [hr]
    go_enter Tryz.func22, Tryz.ntmps22
    go_wp2
    go_ret
    exact ⟨by first | rfl | simp [hw], rfl⟩
  · have hr : bringI i n = Int.tmod i n := by rw [bringI, if_neg hneg]
    rw [hr]
    have hneg2 : 0 ≤ Int.tmod i n := by omega
    go_enter Tryz.func22, Tryz.ntmps22
    go_wp2
    go_ret
    exact ⟨rfl, rfl⟩
end Go.Proofs.YteblahoijolegaaGreatDoor
end
section
set_option linter.all false
namespace Go.Proofs.YteblahoijolegaaGreatDoor
open Go.RowKit

theorem grt_ne {P : Pol} (g : P.Good) {i j : Nat} (hi : i < P.ng) (hj : j < P.ng) (hij : i ≠ j) : ((P.grt i).1.toList == (P.grt j).1.toList) = false := by
  have key : ∀ a b, a < b → b < P.ng → ((P.grt a).1.toList == (P.grt b).1.toList) = false := fun a b hab hb => anyx_false (g.grt b hb).2.1 a hab
  rcases Nat.lt_or_ge i j with h | h
  · exact key i j h hj
  · have := key j i (by omega) hi
    rw [beq_eq_false_iff_ne] at this ⊢
    exact fun e => this e.symm
theorem fit_mem {P : Pol} {up : List Nat} {wk : Int} {p : ByteArray} {x y : Int} {i : Nat} (h : i ∈ fitIx P up wk p x y P.ng) : i < P.ng ∧ fitsB P.nl up wk p x y (P.grt i) = true := by
  simpa [fitIx] using h
theorem fit_head {P : Pol} {up : List Nat} {wk : Int} {p : ByteArray} {x y : Int} {i : Nat} {r : List Nat} (h : fitIx P up wk p x y P.ng = i :: r) : i < P.ng ∧ fitsB P.nl up wk p x y (P.grt i) = true := fit_mem (by rw [h]; simp)
theorem toldF_at {P : Pol} (g : P.Good) {up : List Nat} {x : Int} {i : Nat} (hi : i < P.ng) (h1 : sLeq P.nl up x (P.grt i).2.2.1 = true) (h2 : sLeq P.nl up (P.grt i).2.2.2.1 x = true) :
    ∀ r j, j ≤ i → i < j + r → j + r ≤ P.ng → toldF P up (P.grt i).1 x (P.grt i).2.2.2.1 r j = true
  | 0, j, _, _, _ => by omega
  | r + 1, j, hj, hr, hn => by
    rw [toldF]
    by_cases e : j = i
    · subst e
      have : lvB (P.grt j).2.2.2.1 (P.grt j).1 (P.grt j) = true := by simp [lvB]
      rw [if_pos this, h1, h2]; rfl
    · have : lvB (P.grt i).2.2.2.1 (P.grt i).1 (P.grt j) = false := by
        rw [lvB, grt_ne g hi (by omega) (fun h => e h.symm), Bool.and_false]
      rw [if_neg (by rw [this]; simp)]
      exact toldF_at g hi h1 h2 r (j + 1) (by omega) (by omega) (by omega)
theorem told_fits {P : Pol} (g : P.Good) {up : List Nat} {wk : Int} {p : ByteArray} {x y : Int} {i : Nat} (hi : i < P.ng) (hf : fitsB P.nl up wk p x y (P.grt i) = true) : toldB P up (P.grt i).1 x (P.grt i).2.2.2.1 = true := by
  have h := fitsB_iff.1 hf
  exact toldF_at g hi h.2.2.1 h.2.2.2.1 P.ng 0 (Nat.zero_le _) (by omega) (by omega)
/-- the policy without the grants that concern neither the workload nor the path -/
def keepG (wk : Int) (p : ByteArray) (g : ByteArray × Int × Int × Int × ByteArray) : Bool := !(g.2.1 == wk) || !Lib.hasPrefix p.data.toList g.2.2.2.2.data.toList
def keepIx (P : Pol) (wk : Int) (p : ByteArray) (n : Nat) : List Nat := (List.range n).filter fun i => keepG wk p (P.grt i)
theorem keepIx_step (P : Pol) (wk : Int) (p : ByteArray) (n : Nat) : keepIx P wk p (n + 1) = keepIx P wk p n ++ (if keepG wk p (P.grt n) then [n] else []) := by
  simp only [keepIx, List.range_succ, List.filter_append, List.filter_cons, List.filter_nil]
theorem keepIx_len (P : Pol) (wk : Int) (p : ByteArray) (n : Nat) : (keepIx P wk p n).length ≤ n := by
  have := List.length_filter_le (fun i => keepG wk p (P.grt i)) (List.range n)
  simpa [keepIx] using this
theorem mem_keepIx {P : Pol} {wk : Int} {p : ByteArray} {n i : Nat} : i ∈ keepIx P wk p n ↔ i < n ∧ keepG wk p (P.grt i) = true := by simp [keepIx]
theorem keepIx_nodup (P : Pol) (wk : Int) (p : ByteArray) (n : Nat) : (keepIx P wk p n).Nodup := List.Pairwise.filter _ List.nodup_range
def Pol.cut (P : Pol) (L : List Nat) : Pol := { P with ng := L.length, grt := fun k => P.grt (L[k]?.getD 0) }
theorem grtE_of {nl nw : Nat} {up : List Nat} {d : Bool} {s p : ByteArray} {wk fr tq : Int} (h : nameB s = true ∧ d = false ∧ labB nw wk = true ∧ labB nl fr = true ∧ labB nl tq = true ∧ (fr == tq) = false ∧ leqO up tq fr = true ∧ pathB p = true) : grtE nl nw up d s wk fr tq p = 0 := by
  obtain ⟨h1, h2, h3, h4, h5, h6, h7, h8⟩ := h
  unfold grtE
  rw [h1, h2, h3, h4, h5, h6, h7, h8]; rfl
theorem anyx_of_false {p : Nat → Bool} {n : Nat} (h : ∀ k, k < n → p k = false) : anyx p n = false := by
  cases hp : anyx p n
  · rfl
  · obtain ⟨j, h1, h2⟩ := (anyx_iff p n).1 hp
    rw [h j h1] at h2; cases h2
theorem Pol.code_parts {P : Pol} (h : P.code = 0) : P.lim = true ∧ P.mk1 = 0 ∧ ∀ k, k < 7 → P.part k = 0 := by
  have hl : P.lim = true := by
    cases hl : P.lim
    · exfalso; rw [Pol.code, if_pos hl] at h; omega
    · rfl
  rw [Pol.code, if_neg (by rw [hl]; simp)] at h
  have hm : P.mk1 = 0 := by
    by_cases hm : P.mk1 = 0
    · exact hm
    · rw [if_pos hm] at h; exact h
  rw [if_neg (by simpa using hm)] at h
  exact ⟨hl, hm, allE_zero h⟩
theorem Pol.code_of {P : Pol} (h1 : P.lim = true) (h2 : P.mk1 = 0) (h3 : ∀ k, k < 7 → P.part k = 0) : P.code = 0 := by
  rw [Pol.code, if_neg (by rw [h1]; simp), if_neg (by simpa using h2)]
  exact allE_of h3
theorem cut_code {P : Pol} (h : P.code = 0) {L : List Nat} (hL : ∀ i ∈ L, i < P.ng) (hn : L.Nodup) (hlen : L.length ≤ P.ng) : (P.cut L).code = 0 := by
  have g := Pol.good h
  obtain ⟨h1, h2, h3⟩ := Pol.code_parts h
  have hs := P.small h1
  refine Pol.code_of ?_ h2 fun k hk => ?_
  · have := of_decide_eq_true h1
    exact decide_eq_true (by simp only [Pol.cut]; omega)
  · rcases (by omega : k = 0 ∨ k = 1 ∨ k = 2 ∨ k = 3 ∨ k = 4 ∨ k = 5 ∨ k = 6) with rfl | rfl | rfl | rfl | rfl | rfl | rfl
    · exact h3 0 (by omega)
    · exact h3 1 (by omega)
    · exact h3 2 (by omega)
    · exact h3 3 (by omega)
    · exact h3 4 (by omega)
    · show (P.cut L).e5 = 0
      refine allE_of fun i hi => ?_
      have hi' : i < L.length := hi
      have e : ∀ k, k < L.length → L[k]?.getD 0 ∈ L := fun k hk => by rw [List.getElem?_eq_getElem hk]; exact List.getElem_mem hk
      have gi := g.grt _ (hL _ (e i hi'))
      refine grtE_of ⟨gi.1, anyx_of_false fun k hk => ?_, gi.2.2⟩
      refine grt_ne g (hL _ (e k (by omega))) (hL _ (e i hi')) fun he => ?_
      rw [List.getElem?_eq_getElem (show k < L.length by omega), List.getElem?_eq_getElem hi', Option.getD_some, Option.getD_some] at he
      exact (List.pairwise_iff_getElem.1 hn k i (show k < L.length by omega) hi' hk) he
    · exact h3 6 (by omega)
theorem cut_fit {P : Pol} {up : List Nat} {wk : Int} {p : ByteArray} {x y : Int} : fitIx (P.cut (keepIx P wk p P.ng)) up wk p x y (keepIx P wk p P.ng).length = [] := by
  rw [fitIx, List.filter_eq_nil_iff]
  intro i hi hf
  have hi' := List.mem_range.1 hi
  have hm : (keepIx P wk p P.ng)[i]?.getD 0 ∈ keepIx P wk p P.ng := by rw [List.getElem?_eq_getElem hi']; exact List.getElem_mem hi'
  have h1 := (mem_keepIx.1 hm).2
  have h2 := fitsB_iff.1 hf
  simp only [Pol.cut] at h2
  simp only [keepG, Bool.or_eq_true, Bool.not_eq_true'] at h1
  rcases h1 with h1 | h1
  · rw [h2.1] at h1; cases h1
  · rw [h2.2.1] at h1; cases h1
end Go.Proofs.YteblahoijolegaaGreatDoor
end
