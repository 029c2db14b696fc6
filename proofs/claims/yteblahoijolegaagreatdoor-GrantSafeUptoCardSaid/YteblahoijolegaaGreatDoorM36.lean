import Derived.Test.YteblahoijolegaaGreatDoorM35
import Derived.BigQuiet
import Derived.BigRegion
import Derived.ChangeAlike
import Derived.Deep.DeepCutAuto
import Derived.Deep.Light
import Derived.Deep.LoopGhost
import Derived.Deep.MidRow
import Derived.Deep.QuietTactic
import Derived.Deep.RegionHeld3
import Derived.Deep.WholeRow
import Derived.Defers
import Derived.Great.Walk
import Derived.Laws.BitsAllLaws
import Derived.Laws.CopyOwn
import Derived.Laws.EntriesVeiled
import Derived.Laws.LoneSync
import Derived.Laws.Pointers
import Derived.Laws.StructEq
import Derived.Lib.Hide
import Derived.Lib.LazyBuf
import Derived.Lib.SliceRun
import Derived.LoopIn
import Derived.LoopNIn
import Derived.Maps.AppendAt
import Derived.OwnWalkIn
import Derived.RangeFuncBox
import Derived.RangeFuncKeeps
import Derived.RangeFuncLeaves
import Derived.RangeFuncSeq
import Derived.RegionCalls
import Derived.RegionIn
import Derived.RegionTactic
import Derived.Shelf.Abstract
import Derived.TacticsInMore
import Derived.Test.YteblahoijolegaaGreatDoorShelf
import Derived.WalkKit
import Derived.WalkLawsBesides
import Derived.WalkSpells
import Derived.WideLaws
section
set_option linter.all false
namespace Go.Proofs.YteblahoijolegaaGreatDoor
open Go.RowKit

/-- a path, 70 letters of it at most -/
def cut70 (p : ByteArray) : ByteArray := p.extract 0 (min (p.size : Int) 70).toNat
set_option maxHeartbeats 4000000 in
set_option maxRecDepth 20000 in
theorem law_fine (q : PolPtr) (P : Pol) (h1 : 1 ≤ P.nl) (h2 : P.nl ≤ 10) (h3 : 1 ≤ P.nw) (h4 : P.nw ≤ 6) (wk x y : Int) (p n : ByteArray) (hp : p.size ≤ 1048576) (w : World) :
    Calls Tryz.prog 14 #[.agg (polCells q P), askV wk x y p n] w fun e w' => e = .returned (askV (bringI wk P.nw) (bringI x P.nl) (bringI y P.nl) (cut70 p) n) ∧ Below w.heap.size w w' := by
  obtain ⟨w0, hw0⟩ : ∃ w0 : World, w0 = ((w.alloc (.cells (polCells q P) 30)).alloc (.cells #[.int .i64 wk, .int .i64 x, .int .i64 y, .string p, .string n] 41)).alloc (.cells #[.int .i64 0, .int .i64 0, .int .i64 0, .string ⟨#[]⟩, .string ⟨#[]⟩] 41) := ⟨_, rfl⟩
  have hb0 : Below w.heap.size w w0 := by rw [hw0]; (repeat first | exact Below.refl _ _ | assumption | refine Below.alloc ?_ (by simp; try omega) _ | refine Below.drew ?_ | refine Below.drewN ?_ _ | refine Below.setCell ?_ (by simp; try omega) _ | refine Below.trans ?_ (Below.mono (by assumption) (by simp; try omega)))
  have g1 : w0.heap[w.heap.size]? = some (.cells (polCells q P) 30) := by rw [hw0]; (simp only [heap_drew, heap_allocs, World.size_alloc, if_true] <;> repeat (first | rw [if_pos (by omega)] | rw [if_neg (by omega)]))
  have g2 : w0.heap[w.heap.size + 1]? = some (.cells #[.int .i64 wk, .int .i64 x, .int .i64 y, .string p, .string n] 41) := by rw [hw0]; (simp only [heap_drew, heap_allocs, World.size_alloc, if_true] <;> repeat (first | rw [if_pos (by omega)] | rw [if_neg (by omega)]))
  have g3 : w0.heap[w.heap.size + 2]? = some (.cells #[.int .i64 0, .int .i64 0, .int .i64 0, .string ⟨#[]⟩, .string ⟨#[]⟩] 41) := by rw [hw0]; (simp only [heap_drew, heap_allocs, World.size_alloc, if_true] <;> repeat (first | rw [if_pos (by omega)] | rw [if_neg (by omega)]))
  have m1 : ¬ (1 : Int) > P.nw := by omega
  have m2 : ¬ (1 : Int) > P.nl := by omega
  have b1 := fun W => ref_Bring wk P.nw h3 (by omega) W
  have b2 := fun z W => ref_Bring z P.nl h1 (by omega) W
  have HW := Lib.hid hw0; clear hw0
  have G1 := Lib.hid g1; have G2 := Lib.hid g2; have G3 := Lib.hid g3
  clear g1 g2 g3
  simp only [askV, polCells] at HW ⊢
  have e1 : max (P.nw : Int) 1 = P.nw := by omega
  have e2 : max (P.nl : Int) 1 = P.nl := by omega
  have HB0 := Lib.hid hb0
  obtain ⟨w1, hw1⟩ : ∃ w1 : World, w1 = w0.setCell ⟨w.heap.size + 1, 0, none⟩ (.int .i64 (bringI wk P.nw)) := ⟨_, rfl⟩
  have k1 : w1.heap[w.heap.size]? = some (.cells (polCells q P) 30) := by rw [hw1]; exact (heap_setne _ (by simp)).trans G1.out
  have k2 : w1.heap[w.heap.size + 1]? = some (.cells #[.int .i64 (bringI wk P.nw), .int .i64 x, .int .i64 y, .string p, .string n] 41) := by rw [hw1]; exact heap_set (o := 0) _ G2.out
  have k3 : w1.heap[w.heap.size + 2]? = some (.cells #[.int .i64 0, .int .i64 0, .int .i64 0, .string ⟨#[]⟩, .string ⟨#[]⟩] 41) := by rw [hw1]; exact (heap_setne _ (by simp)).trans G3.out
  have kb : Below w.heap.size w w1 := by rw [hw1]; exact hb0.setCell (by simp) _
  have K1 := Lib.hid k1; have K2 := Lib.hid k2; have K3 := Lib.hid k3; have KB := Lib.hid kb
  have HW1 := Lib.hid hw1
  clear k1 k2 k3 kb hw1 hb0
  have r0 := cell_of (o := 1) K2.out
  have r1 := cell_of (o := 2) K2.out
  have r2 := cell_of (o := 0) K1.out
  simp only [polCells] at r2
  have f1 : w1.frozen? ⟨w.heap.size + 1, 1, none⟩ = false := free_of K2.out
  have f2 : w1.frozen? ⟨w.heap.size + 1, 2, none⟩ = false := free_of K2.out
  have s0 := cell_of (o := 0) G2.out
  have f0 : w0.frozen? ⟨w.heap.size + 1, 0, none⟩ = false := free_of G2.out
  go_enter Tryz.func14, Tryz.ntmps14
  go_wp2_with fail
  refine (b1 _).mono ?_
  rintro e wa ⟨rfl, rfl⟩
  rw [← HW.out]
  go_upto_region 2 with fail
  rw [← HW1.out]
  go_cut [] (fun wx => wx.heap[w.heap.size + 1]? = some (.cells #[.int .i64 (bringI wk P.nw), .int .i64 (bringI x P.nl), .int .i64 (bringI y P.nl), .string p, .string n] 41) ∧ wx.heap[w.heap.size + 2]? = some (.cells #[.int .i64 0, .int .i64 0, .int .i64 0, .string ⟨#[]⟩, .string ⟨#[]⟩] 41) ∧ Below w.heap.size w wx)
  case first =>
    go_region_held3 (fun w' => w'.cell? ⟨w.heap.size, 0, none⟩ = some (.slice q.a0 P.nl q.c0))
      (first | exact r2 | (exact (cell_set_ne (by omega)).trans (by assumption)))
      (first | (go_at_call 22; refine (b2 _ _).mono ?_; rintro e w' ⟨rfl, rfl⟩))
    all_goals
      go_wp2_with fail
      go_meet
      refine ⟨?_, (heap_setne _ (by simp)).trans ((heap_setne _ (by simp)).trans K3.out), (KB.out.drew.setCell (by simp) _).setCell (by simp) _⟩
      first
        | exact heap_set (o := 2) _ (heap_set (o := 1) _ K2.out)
        | exact heap_set (o := 1) _ (heap_set (o := 2) _ K2.out)
  case rest =>
    obtain ⟨hx2, hx3, hbx⟩ := hcut
    have HX2 := Lib.hid hx2; have HX3 := Lib.hid hx3; have HBX := Lib.hid hbx
    have s3 := cell_of (o := 3) hx2
    have f3 : wc.frozen? ⟨w.heap.size + 1, 3, none⟩ = false := free_of hx2
    clear hx2 hx3 hbx s0 f0 r0 r1 r2 f1 f2
    obtain ⟨w4, hw4⟩ : ∃ w4 : World, w4 = wc.setCell ⟨w.heap.size + 1, 3, none⟩ (.string (cut70 p)) := ⟨_, rfl⟩
    have k2 : w4.heap[w.heap.size + 1]? = some (.cells #[.int .i64 (bringI wk P.nw), .int .i64 (bringI x P.nl), .int .i64 (bringI y P.nl), .string (cut70 p), .string n] 41) := by rw [hw4]; exact heap_set (o := 3) _ HX2.out
    have k3 : w4.heap[w.heap.size + 2]? = some (.cells #[.int .i64 0, .int .i64 0, .int .i64 0, .string ⟨#[]⟩, .string ⟨#[]⟩] 41) := by rw [hw4]; exact (heap_setne _ (by simp)).trans HX3.out
    have kb : Below w.heap.size w w4 := by rw [hw4]; exact HBX.out.setCell (by simp) _
    have v0 := cell_of (o := 0) k2; have v1 := cell_of (o := 1) k2; have v2 := cell_of (o := 2) k2; have v3 := cell_of (o := 3) k2; have v4 := cell_of (o := 4) k2
    have t0 := cell_of (o := 0) k3; have t1 := cell_of (o := 1) k3; have t2 := cell_of (o := 2) k3; have t3 := cell_of (o := 3) k3; have t4 := cell_of (o := 4) k3
    have t5 : ∀ k, w4.frozen? ⟨w.heap.size + 2, k, none⟩ = false := fun k => free_of k3
    obtain ⟨wf, hwf⟩ : ∃ wf : World, wf = ((((w4.setCell ⟨w.heap.size + 2, 0, none⟩ (.int .i64 (bringI wk P.nw))).setCell ⟨w.heap.size + 2, 1, none⟩ (.int .i64 (bringI x P.nl))).setCell ⟨w.heap.size + 2, 2, none⟩ (.int .i64 (bringI y P.nl))).setCell ⟨w.heap.size + 2, 3, none⟩ (.string (cut70 p))).setCell ⟨w.heap.size + 2, 4, none⟩ (.string n) := ⟨_, rfl⟩
    have kf : wf.heap[w.heap.size + 2]? = some (.cells #[.int .i64 (bringI wk P.nw), .int .i64 (bringI x P.nl), .int .i64 (bringI y P.nl), .string (cut70 p), .string n] 41) := by
      rw [hwf]
      exact heap_set (o := 4) _ (heap_set (o := 3) _ (heap_set (o := 2) _ (heap_set (o := 1) _ (heap_set (o := 0) _ k3))))
    have kbf : Below w.heap.size w wf := by rw [hwf]; exact ((((kb.setCell (by simp) _).setCell (by simp) _).setCell (by simp) _).setCell (by simp) _).setCell (by simp) _
    have HW4 := Lib.hid hw4; have KF := Lib.hid kf; have KBF := Lib.hid kbf; have HWF := Lib.hid hwf
    clear hw4 k2 k3 kb kf kbf hwf
    go_upto_region 4 with fail
    rw [show wc.setCell ⟨w.heap.size + 1, 3, none⟩ (.string (p.extract 0 (min (p.size : Int) 70).toNat)) = w4 from HW4.out.symm]
    go_wp2_with fail
    rw [show w.heap.size + 1 + 1 = w.heap.size + 2 from rfl, ← HWF.out]
    have hi : (Tryz.prog.info? 41).map (·.size) = some 5 := by kernel_rfl
    refine bodyPost_ret (results_cell_row rfl _ _ _ _ _ _ _ rfl KF.out Tryz.underlying41 rfl hi) rfl ?_
    exact ⟨rfl, KBF.out⟩
end Go.Proofs.YteblahoijolegaaGreatDoor
end
