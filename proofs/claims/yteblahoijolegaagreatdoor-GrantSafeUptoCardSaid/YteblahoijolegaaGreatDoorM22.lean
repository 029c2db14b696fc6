import Derived.Test.YteblahoijolegaaGreatDoorM01
import Derived.BigQuiet
import Derived.BigRegion
import Derived.ChangeAlike
import Derived.Deep.DeepCutAuto
import Derived.Deep.Light
import Derived.Deep.LoopGhost
import Derived.Deep.MidRow
import Derived.Deep.QuietTactic
import Derived.Deep.RegionHeld3
import Derived.Deep.WholeRow
import Derived.Defers
import Derived.Great.Walk
import Derived.Laws.BitsAllLaws
import Derived.Laws.CopyOwn
import Derived.Laws.EntriesVeiled
import Derived.Laws.LoneSync
import Derived.Laws.Pointers
import Derived.Laws.StructEq
import Derived.Lib.Hide
import Derived.Lib.LazyBuf
import Derived.Lib.SliceRun
import Derived.LoopIn
import Derived.LoopNIn
import Derived.Maps.AppendAt
import Derived.OwnWalkIn
import Derived.RangeFuncBox
import Derived.RangeFuncKeeps
import Derived.RangeFuncLeaves
import Derived.RangeFuncSeq
import Derived.RegionCalls
import Derived.RegionIn
import Derived.RegionTactic
import Derived.Shelf.Abstract
import Derived.TacticsInMore
import Derived.Test.YteblahoijolegaaGreatDoorShelf
import Derived.WalkKit
import Derived.WalkLawsBesides
import Derived.WalkSpells
import Derived.WideLaws
import Derived.Test.YteblahoijolegaaGreatDoorM21
import Derived.Test.YteblahoijolegaaGreatDoorM20
section
set_option linter.all false
namespace Go.Proofs.YteblahoijolegaaGreatDoor
open Go.RowKit

theorem check_source {w : World} {bp bv bj n cp : Nat} {ao : Option Addr} {r : Int} (hp : w.cell? ⟨bp, 2, none⟩ = some (.slice ao n cp)) (hv : w.cell? ⟨bv, 0, none⟩ = some (.pointer (some ⟨bj, 0, none⟩)))
    (h : Calls Tryz.prog 42 #[.slice ao n cp, .func (.func 43) #[.pointer (some ⟨bj, 0, none⟩)] #[]] w fun e w' => e = .returned (.int .i64 r) ∧ Below w.heap.size w w') :
    Calls Tryz.prog 41 #[.pointer (some ⟨bp, 0, none⟩), .pointer (some ⟨bv, 0, none⟩)] w fun e w' => e = .returned (.int .i64 r) ∧ Below w.heap.size w w' := by
  go_enter Tryz.func41, Tryz.ntmps41
  go_wp2_with fail
  refine h.mono ?_
  rintro e w1 ⟨rfl, hb⟩
  go_wp2_with fail
  go_ret
  exact ⟨rfl, hb⟩
theorem check_dest {w : World} {bp bv bj n cp : Nat} {ao : Option Addr} {r : Int} (hp : w.cell? ⟨bp, 3, none⟩ = some (.slice ao n cp)) (hv : w.cell? ⟨bv, 0, none⟩ = some (.pointer (some ⟨bj, 0, none⟩)))
    (h : Calls Tryz.prog 45 #[.slice ao n cp, .func (.func 46) #[.pointer (some ⟨bj, 0, none⟩)] #[]] w fun e w' => e = .returned (.int .i64 r) ∧ Below w.heap.size w w') :
    Calls Tryz.prog 44 #[.pointer (some ⟨bp, 0, none⟩), .pointer (some ⟨bv, 0, none⟩)] w fun e w' => e = .returned (.int .i64 r) ∧ Below w.heap.size w w' := by
  go_enter Tryz.func44, Tryz.ntmps44
  go_wp2_with fail
  refine h.mono ?_
  rintro e w1 ⟨rfl, hb⟩
  go_wp2_with fail
  go_ret
  exact ⟨rfl, hb⟩
theorem check_works {w : World} {bp bv bj n cp : Nat} {ao : Option Addr} {r : Int} (hp : w.cell? ⟨bp, 4, none⟩ = some (.slice ao n cp)) (hv : w.cell? ⟨bv, 0, none⟩ = some (.pointer (some ⟨bj, 0, none⟩)))
    (h : Calls Tryz.prog 48 #[.slice ao n cp, .func (.func 49) #[.pointer (some ⟨bj, 0, none⟩)] #[]] w fun e w' => e = .returned (.int .i64 r) ∧ Below w.heap.size w w') :
    Calls Tryz.prog 47 #[.pointer (some ⟨bp, 0, none⟩), .pointer (some ⟨bv, 0, none⟩)] w fun e w' => e = .returned (.int .i64 r) ∧ Below w.heap.size w w' := by
  go_enter Tryz.func47, Tryz.ntmps47
  go_wp2_with fail
  refine h.mono ?_
  rintro e w1 ⟨rfl, hb⟩
  go_wp2_with fail
  go_ret
  exact ⟨rfl, hb⟩
theorem check_route {w : World} {bp bv bj n cp : Nat} {ao : Option Addr} {r : Int} (hp : w.cell? ⟨bp, 5, none⟩ = some (.slice ao n cp)) (hv : w.cell? ⟨bv, 0, none⟩ = some (.pointer (some ⟨bj, 0, none⟩)))
    (h : Calls Tryz.prog 51 #[.slice ao n cp, .func (.func 52) #[.pointer (some ⟨bj, 0, none⟩)] #[]] w fun e w' => e = .returned (.int .i64 r) ∧ Below w.heap.size w w') :
    Calls Tryz.prog 50 #[.pointer (some ⟨bp, 0, none⟩), .pointer (some ⟨bv, 0, none⟩)] w fun e w' => e = .returned (.int .i64 r) ∧ Below w.heap.size w w' := by
  go_enter Tryz.func50, Tryz.ntmps50
  go_wp2_with fail
  refine h.mono ?_
  rintro e w1 ⟨rfl, hb⟩
  go_wp2_with fail
  go_ret
  exact ⟨rfl, hb⟩
theorem check_call {w : World} {bp bv bj n cp : Nat} {ao : Option Addr} {r : Int} (hp : w.cell? ⟨bp, 6, none⟩ = some (.slice ao n cp)) (hv : w.cell? ⟨bv, 0, none⟩ = some (.pointer (some ⟨bj, 0, none⟩)))
    (h : Calls Tryz.prog 54 #[.slice ao n cp, .func (.func 55) #[.pointer (some ⟨bj, 0, none⟩)] #[]] w fun e w' => e = .returned (.int .i64 r) ∧ Below w.heap.size w w') :
    Calls Tryz.prog 53 #[.pointer (some ⟨bp, 0, none⟩), .pointer (some ⟨bv, 0, none⟩)] w fun e w' => e = .returned (.int .i64 r) ∧ Below w.heap.size w w' := by
  go_enter Tryz.func53, Tryz.ntmps53
  go_wp2_with fail
  refine h.mono ?_
  rintro e w1 ⟨rfl, hb⟩
  go_wp2_with fail
  go_ret
  exact ⟨rfl, hb⟩
theorem check_grant {w : World} {bp bv bj n cp : Nat} {ao : Option Addr} {r : Int} (hp : w.cell? ⟨bp, 7, none⟩ = some (.slice ao n cp)) (hv : w.cell? ⟨bv, 0, none⟩ = some (.pointer (some ⟨bj, 0, none⟩)))
    (h : Calls Tryz.prog 57 #[.slice ao n cp, .func (.func 58) #[.pointer (some ⟨bj, 0, none⟩)] #[]] w fun e w' => e = .returned (.int .i64 r) ∧ Below w.heap.size w w') :
    Calls Tryz.prog 56 #[.pointer (some ⟨bp, 0, none⟩), .pointer (some ⟨bv, 0, none⟩)] w fun e w' => e = .returned (.int .i64 r) ∧ Below w.heap.size w w' := by
  go_enter Tryz.func56, Tryz.ntmps56
  go_wp2_with fail
  refine h.mono ?_
  rintro e w1 ⟨rfl, hb⟩
  go_wp2_with fail
  go_ret
  exact ⟨rfl, hb⟩
theorem check_allow {w : World} {bp bv bj n cp : Nat} {ao : Option Addr} {r : Int} (hp : w.cell? ⟨bp, 8, none⟩ = some (.slice ao n cp)) (hv : w.cell? ⟨bv, 0, none⟩ = some (.pointer (some ⟨bj, 0, none⟩)))
    (h : Calls Tryz.prog 60 #[.slice ao n cp, .func (.func 61) #[.pointer (some ⟨bj, 0, none⟩)] #[]] w fun e w' => e = .returned (.int .i64 r) ∧ Below w.heap.size w w') :
    Calls Tryz.prog 59 #[.pointer (some ⟨bp, 0, none⟩), .pointer (some ⟨bv, 0, none⟩)] w fun e w' => e = .returned (.int .i64 r) ∧ Below w.heap.size w w' := by
  go_enter Tryz.func59, Tryz.ntmps59
  go_wp2_with fail
  refine h.mono ?_
  rintro e w1 ⟨rfl, hb⟩
  go_wp2_with fail
  go_ret
  exact ⟨rfl, hb⟩
end Go.Proofs.YteblahoijolegaaGreatDoor
end
section
set_option linter.all false
namespace Go.Proofs.YteblahoijolegaaGreatDoor
open Go.RowKit

/-- what the parts of Check look at -/
structure EnvK (w : World) (bp bj bv bl b bu bd : Nat) (q : PolPtr) (P : Pol) (up down : List Nat) (hi : Int) : Prop where
  box : PolBox w bp 0 q P
  j0 : w.cell? ⟨bj, 0, none⟩ = some (.pointer (some ⟨bp, 0, none⟩))
  j1 : w.cell? ⟨bj, 1, none⟩ = some (.pointer (some ⟨bl, 0, none⟩))
  v0 : w.cell? ⟨bv, 0, none⟩ = some (.pointer (some ⟨bj, 0, none⟩))
  pol : PolAt w q P
  lat : LatAt w bl b bu bd P.nl up down hi
  ok : OrdOk P.nl up down
  sz : P.Sized
  sm : P.Small
  up_eq : P.up = up
theorem EnvK.below {w w' : World} {bp bj bv bl b bu bd : Nat} {q : PolPtr} {P : Pol} {up down : List Nat} {hi : Int} (h : EnvK w bp bj bv bl b bu bd q P up down hi) (hb : Below w.heap.size w w') : EnvK w' bp bj bv bl b bu bd q P up down hi :=
  ⟨h.box.below hb, (hb.cell (p := ⟨bj, 0, none⟩) (cell_lt h.j0)).trans h.j0, (hb.cell (p := ⟨bj, 1, none⟩) (cell_lt h.j1)).trans h.j1, (hb.cell (p := ⟨bv, 0, none⟩) (cell_lt h.v0)).trans h.v0, h.pol.below hb, h.lat.below hb, h.ok, h.sz, h.sm, h.up_eq⟩
section
variable {w : World} {bp bj bv bl b bu bd : Nat} {q : PolPtr} {P : Pol} {up down : List Nat} {hi : Int}
theorem EnvK.cell (h : EnvK w bp bj bv bl b bu bd q P up down hi) :
    w.cell? ⟨bp, 0, none⟩ = some (.slice q.a0 P.nl q.c0) ∧ w.cell? ⟨bp, 1, none⟩ = some (.slice q.a1 P.nb q.c1) ∧ w.cell? ⟨bp, 2, none⟩ = some (.slice q.a2 P.ns q.c2) ∧ w.cell? ⟨bp, 3, none⟩ = some (.slice q.a3 P.nd q.c3) ∧ w.cell? ⟨bp, 4, none⟩ = some (.slice q.a4 P.nw q.c4) ∧ w.cell? ⟨bp, 5, none⟩ = some (.slice q.a5 P.nr q.c5) ∧ w.cell? ⟨bp, 6, none⟩ = some (.slice q.a6 P.nc q.c6) ∧ w.cell? ⟨bp, 7, none⟩ = some (.slice q.a7 P.ng q.c7) ∧ w.cell? ⟨bp, 8, none⟩ = some (.slice q.a8 P.na q.c8) := by
  have hb := h.box
  simp only [PolBox, Nat.zero_add] at hb
  exact ⟨hb.head, hb.tail.head, hb.tail.tail.head, hb.tail.tail.tail.head, hb.tail.tail.tail.tail.head, hb.tail.tail.tail.tail.tail.head, hb.tail.tail.tail.tail.tail.tail.head, hb.tail.tail.tail.tail.tail.tail.tail.head, hb.tail.tail.tail.tail.tail.tail.tail.tail.head⟩
theorem part_source (h : EnvK w bp bj bv bl b bu bd q P up down hi) : Calls Tryz.prog 41 #[.pointer (some ⟨bp, 0, none⟩), .pointer (some ⟨bv, 0, none⟩)] w fun e w' => e = .returned (.int .i64 P.e0) ∧ Below w.heap.size w w' := by
  obtain ⟨p0, p1, p2, p3, p4, p5, p6, p7, p8⟩ := h.cell
  refine check_source p2 h.v0 ?_
  refine all_source q.a2 P.ns q.c2 (Nat.le_trans h.sm.ns (by omega)) (siiC P.src) _ 43 bj (enters_of Tryz.func43 (by kernel_rfl) rfl) w h.pol.h2.sl (fun i _ j _ => siiC_one _ i j) ?_
  intro i hi hpre W hW
  obtain ⟨a, off, ha⟩ := h.pol.h2.at (by omega)
  have hs := h.pol.h2.sl.below hW
  rw [ha] at hs p2
  exact judge_source (ks := fun k => (P.src k).1) ((Cells.cons h.j0 (.cons p0 (.cons p2 (.nil _)))).below hW) hs (Nat.le_trans h.sm.ns (by omega)) h.pol.h2.cap (fun k _ => rfl) i hi (P.src i).1 (P.src i).2.1 (P.src i).2.2
theorem part_dest (h : EnvK w bp bj bv bl b bu bd q P up down hi) : Calls Tryz.prog 44 #[.pointer (some ⟨bp, 0, none⟩), .pointer (some ⟨bv, 0, none⟩)] w fun e w' => e = .returned (.int .i64 P.e1) ∧ Below w.heap.size w w' := by
  obtain ⟨p0, p1, p2, p3, p4, p5, p6, p7, p8⟩ := h.cell
  refine check_dest p3 h.v0 ?_
  refine all_dest q.a3 P.nd q.c3 (Nat.le_trans h.sm.nd (by omega)) (siC P.dst) _ 46 bj (enters_of Tryz.func46 (by kernel_rfl) rfl) w h.pol.h3.sl (fun i _ j _ => siC_one _ i j) ?_
  intro i hi hpre W hW
  obtain ⟨a, off, ha⟩ := h.pol.h3.at (by omega)
  have hs := h.pol.h3.sl.below hW
  rw [ha] at hs p3
  exact judge_dest (ks := fun k => (P.dst k).1) ((Cells.cons h.j0 (.cons p0 (.cons p3 (.nil _)))).below hW) hs (Nat.le_trans h.sm.nd (by omega)) h.pol.h3.cap (fun k _ => rfl) i hi (P.dst i).1 (P.dst i).2 (Nat.le_trans (h.sz.dst i hi) (by omega))
theorem part_works (h : EnvK w bp bj bv bl b bu bd q P up down hi) : Calls Tryz.prog 47 #[.pointer (some ⟨bp, 0, none⟩), .pointer (some ⟨bv, 0, none⟩)] w fun e w' => e = .returned (.int .i64 P.e2) ∧ Below w.heap.size w w' := by
  obtain ⟨p0, p1, p2, p3, p4, p5, p6, p7, p8⟩ := h.cell
  refine check_works p4 h.v0 ?_
  refine all_work q.a4 P.nw q.c4 (Nat.le_trans h.sm.nw (by omega)) (siiC P.wrk) _ 49 bj (enters_of Tryz.func49 (by kernel_rfl) rfl) w h.pol.h4.sl (fun i _ j _ => siiC_one _ i j) ?_
  intro i hi hpre W hW
  obtain ⟨a, off, ha⟩ := h.pol.h4.at (by omega)
  have hs := h.pol.h4.sl.below hW
  rw [ha] at hs p4
  exact judge_works (ks := fun k => (P.wrk k).1) ((Cells.cons h.j0 (.cons p0 (.cons p4 (.nil _)))).below hW) hs (Nat.le_trans h.sm.nw (by omega)) h.pol.h4.cap (fun k _ => rfl) i hi (P.wrk i).1 (P.wrk i).2.1 (P.wrk i).2.2
theorem part_route (h : EnvK w bp bj bv bl b bu bd q P up down hi) : Calls Tryz.prog 50 #[.pointer (some ⟨bp, 0, none⟩), .pointer (some ⟨bv, 0, none⟩)] w fun e w' => e = .returned (.int .i64 P.e3) ∧ Below w.heap.size w w' := by
  obtain ⟨p0, p1, p2, p3, p4, p5, p6, p7, p8⟩ := h.cell
  refine check_route p5 h.v0 ?_
  refine all_route q.a5 P.nr q.c5 (Nat.le_trans h.sm.nr (by omega)) (rtC P.rte) _ 52 bj (enters_of Tryz.func52 (by kernel_rfl) rfl) w h.pol.h5.sl (fun i _ j _ => rtC_one _ i j) ?_
  intro i hi hpre W hW
  obtain ⟨a, off, ha⟩ := h.pol.h5.at (by omega)
  have hs := h.pol.h5.sl.below hW
  rw [ha] at hs p5
  exact judge_route (ks := fun k => rtKey (P.rte k)) (kd := fun k => (P.dst k).1) (h.pol.h3.sl.below hW) (Nat.le_trans h.sm.nd (by omega)) (fun k _ => rfl) ((Cells.cons h.j0 (.cons p3 (.cons p4 (.cons p5 (.nil _))))).below hW) hs (Nat.le_trans h.sm.nr (by omega)) h.pol.h5.cap (fun k _ => ⟨rfl, rfl, rfl, _, rfl⟩) i hi (P.rte i).1 (P.rte i).2.1 (P.rte i).2.2.1 (P.rte i).2.2.2
    (Nat.le_trans (h.sz.rte i hi).1 (by omega)) (Nat.le_trans (h.sz.rte i hi).2 (by omega))
theorem calE_ok {nw : Nat} {f : Nat → Int × Int} {i : Nat} (h : calE nw f i = 0) : labB nw (f i).1 = true ∧ labB nw (f i).2 = true := by
  cases h1 : labB nw (f i).1
  · rw [calE_range1 h1] at h; omega
  · cases h2 : labB nw (f i).2
    · rw [calE_range2 h2] at h; omega
    · exact ⟨rfl, rfl⟩
theorem part_call (h : EnvK w bp bj bv bl b bu bd q P up down hi) : Calls Tryz.prog 53 #[.pointer (some ⟨bp, 0, none⟩), .pointer (some ⟨bv, 0, none⟩)] w fun e w' => e = .returned (.int .i64 P.e4) ∧ Below w.heap.size w w' := by
  obtain ⟨p0, p1, p2, p3, p4, p5, p6, p7, p8⟩ := h.cell
  refine check_call p6 h.v0 ?_
  refine all_pair q.a6 P.nc q.c6 (Nat.le_trans h.sm.nc (by omega)) (prC P.cal) _ 55 bj (enters_of Tryz.func55 (by kernel_rfl) rfl) w h.pol.h6.sl (fun i _ j _ => prC_one _ i j) ?_
  intro i hi hpre W hW
  obtain ⟨a, off, ha⟩ := h.pol.h6.at (by omega)
  have hs := h.pol.h6.sl.below hW
  rw [ha] at hs p6
  exact judge_call ((Cells.cons h.j0 (.cons p4 (.cons p6 (.nil _)))).below hW) hs (Nat.le_trans h.sm.nc (by omega)) h.pol.h6.cap h.sm.nw i hi (fun k hk => calE_ok (hpre k hk))
theorem part_grant (h : EnvK w bp bj bv bl b bu bd q P up down hi) : Calls Tryz.prog 56 #[.pointer (some ⟨bp, 0, none⟩), .pointer (some ⟨bv, 0, none⟩)] w fun e w' => e = .returned (.int .i64 P.e5) ∧ Below w.heap.size w w' := by
  obtain ⟨p0, p1, p2, p3, p4, p5, p6, p7, p8⟩ := h.cell
  refine check_grant p7 h.v0 ?_
  refine all_grant q.a7 P.ng q.c7 (Nat.le_trans h.sm.ng (by omega)) (grC P.grt) _ 58 bj (enters_of Tryz.func58 (by kernel_rfl) rfl) w h.pol.h7.sl (fun i _ j _ => grC_one _ i j) ?_
  intro i hi hpre W hW
  obtain ⟨a, off, ha⟩ := h.pol.h7.at (by omega)
  have hs := h.pol.h7.sl.below hW
  rw [ha] at hs p7
  rw [h.up_eq]
  exact judge_grant (ks := fun k => (P.grt k).1) (h.lat.below hW) h.ok ((Cells.cons h.j0 (.cons h.j1 (.cons p0 (.cons p4 (.cons p7 (.nil _)))))).below hW) hs (Nat.le_trans h.sm.ng (by omega)) h.pol.h7.cap (fun k _ => rfl) i hi (P.grt i).1 (P.grt i).2.1 (P.grt i).2.2.1 (P.grt i).2.2.2.1 (P.grt i).2.2.2.2 (Nat.le_trans (h.sz.grt i hi).2 (by omega))
theorem part_allow (h : EnvK w bp bj bv bl b bu bd q P up down hi) : Calls Tryz.prog 59 #[.pointer (some ⟨bp, 0, none⟩), .pointer (some ⟨bv, 0, none⟩)] w fun e w' => e = .returned (.int .i64 P.e6) ∧ Below w.heap.size w w' := by
  obtain ⟨p0, p1, p2, p3, p4, p5, p6, p7, p8⟩ := h.cell
  refine check_allow p8 h.v0 ?_
  refine all_string q.a8 P.na q.c8 (Nat.le_trans h.sm.na (by omega)) (strC P.alw) _ 61 bj (enters_of Tryz.func61 (by kernel_rfl) rfl) w h.pol.h8.sl trivial ?_
  intro i hi hpre W hW
  obtain ⟨a, off, ha⟩ := h.pol.h8.at (by omega)
  have hs := h.pol.h8.sl.below hW
  rw [ha] at hs p8
  exact judge_allow (ks := P.alw) ((Cells.cons h.j0 (.cons p8 (.nil _))).below hW) hs (Nat.le_trans h.sm.na (by omega)) h.pol.h8.cap i hi (P.alw i) (Nat.le_trans (h.sz.alw i hi) (by omega))
/-- the k-th part's function -/
def partF (k : Nat) : Nat := if k = 0 then 41 else if k = 1 then 44 else if k = 2 then 47 else if k = 3 then 50 else if k = 4 then 53 else if k = 5 then 56 else 59
theorem partF_enters (k : Nat) : ∀ args w, (callFunc (partF k) args).run Tryz.prog w = .ok (.enter (partF k) args) w := by
  unfold partF
  repeat' split
  · exact enters_of Tryz.func41 (by kernel_rfl) rfl
  · exact enters_of Tryz.func44 (by kernel_rfl) rfl
  · exact enters_of Tryz.func47 (by kernel_rfl) rfl
  · exact enters_of Tryz.func50 (by kernel_rfl) rfl
  · exact enters_of Tryz.func53 (by kernel_rfl) rfl
  · exact enters_of Tryz.func56 (by kernel_rfl) rfl
  · exact enters_of Tryz.func59 (by kernel_rfl) rfl
theorem part_all (h : EnvK w bp bj bv bl b bu bd q P up down hi) (k : Nat) : Calls Tryz.prog (partF k) #[.pointer (some ⟨bp, 0, none⟩), .pointer (some ⟨bv, 0, none⟩)] w fun e w' => e = .returned (.int .i64 (P.part k)) ∧ Below w.heap.size w w' := by
  unfold partF Pol.part
  repeat' split
  · exact part_source h
  · exact part_dest h
  · exact part_works h
  · exact part_route h
  · exact part_call h
  · exact part_grant h
  · exact part_allow h
end
end Go.Proofs.YteblahoijolegaaGreatDoor
end
section
set_option linter.all false
namespace Go.Proofs.YteblahoijolegaaGreatDoor
open Go.RowKit

theorem allF_zero {f : Nat → Int} : ∀ (r i : Nat), allF f r i = 0 → ∀ k, i ≤ k → k < i + r → f k = 0
  | 0, i, _, k, h1, h2 => by omega
  | r + 1, i, h, k, h1, h2 => by
    rw [allF] at h
    split at h
    · next h0 =>
      rcases Nat.lt_or_ge i k with h3 | h3
      · exact allF_zero r (i + 1) h k (by omega) (by omega)
      · obtain rfl : k = i := by omega
        exact h0
    · next h0 => exact absurd h h0
theorem allE_zero {f : Nat → Int} {n : Nat} (h : allE f n = 0) : ∀ k, k < n → f k = 0 := fun k hk => allF_zero n 0 h k (Nat.zero_le _) (by omega)
theorem allF_of {f : Nat → Int} : ∀ (r i : Nat), (∀ k, i ≤ k → k < i + r → f k = 0) → allF f r i = 0
  | 0, _, _ => rfl
  | r + 1, i, h => by
    rw [allF, if_pos (h i (Nat.le_refl _) (by omega))]
    exact allF_of r (i + 1) fun k h1 h2 => h k (by omega) (by omega)
theorem allE_of {f : Nat → Int} {n : Nat} (h : ∀ k, k < n → f k = 0) : allE f n = 0 := allF_of n 0 fun k _ h2 => h k (by omega)
/-- what a policy that may be is like -/
structure Pol.Good (P : Pol) : Prop where
  lim : P.lim = true
  mk0 : P.mk1 = 0
  bel : ∀ i, i < P.nb → labB P.nl (P.bel i).1 = true ∧ labB P.nl (P.bel i).2 = true
  src : ∀ i, i < P.ns → labB P.nl (P.src i).2.1 = true ∧ labB P.nl (P.src i).2.2 = true
  dst : ∀ i, i < P.nd → labB P.nl (P.dst i).2 = true
  wrk : ∀ i, i < P.nw → labB P.nl (P.wrk i).2.1 = true ∧ 1 ≤ (P.wrk i).2.2 ∧ (P.wrk i).2.2 ≤ 64
  rte : ∀ i, i < P.nr → labB P.nw (P.rte i).2.2.1 = true ∧ 1 ≤ (P.rte i).2.2.2 ∧ (P.rte i).2.2.2 ≤ 100
  cal : ∀ i, i < P.nc → labB P.nw (P.cal i).1 = true ∧ labB P.nw (P.cal i).2 = true
  grt : ∀ i, i < P.ng → nameB (P.grt i).1 = true ∧ anyx (fun k => sameS (P.grt k).1 (P.grt i).1) i = false ∧ labB P.nw (P.grt i).2.1 = true ∧ labB P.nl (P.grt i).2.2.1 = true ∧ labB P.nl (P.grt i).2.2.2.1 = true ∧ ((P.grt i).2.2.1 == (P.grt i).2.2.2.1) = false ∧ leqO P.up (P.grt i).2.2.2.1 (P.grt i).2.2.1 = true ∧ pathB (P.grt i).2.2.2.2 = true
theorem srcE_zero {nl : Nat} {d : Bool} {s : ByteArray} {l c : Int} (h : srcE nl d s l c = 0) : labB nl l = true ∧ labB nl c = true := by
  unfold srcE at h
  revert h
  cases labB nl l <;> cases labB nl c <;> cases nameB s <;> cases d <;> simp
theorem dstE_zero {nl : Nat} {d : Bool} {s : ByteArray} {c : Int} (h : dstE nl d s c = 0) : labB nl c = true := by
  unfold dstE at h
  revert h
  cases labB nl c <;> cases plainB s <;> cases d <;> simp
theorem wrkE_zero {nl : Nat} {d : Bool} {s : ByteArray} {l q : Int} (h : wrkE nl d s l q = 0) : labB nl l = true ∧ 1 ≤ q ∧ q ≤ 64 := by
  unfold wrkE at h
  revert h
  by_cases h1 : 1 ≤ q <;> by_cases h2 : q ≤ 64 <;> cases labB nl l <;> cases nameB s <;> cases d <;> simp [h1, h2]
theorem rteE_zero {nw : Nat} {hit d : Bool} {s p : ByteArray} {wk wt : Int} (h : rteE nw hit d s p wk wt = 0) : labB nw wk = true ∧ 1 ≤ wt ∧ wt ≤ 100 := by
  unfold rteE at h
  revert h
  by_cases h1 : 1 ≤ wt <;> by_cases h2 : wt ≤ 100 <;> cases labB nw wk <;> cases plainB s <;> cases pathB p <;> cases hit <;> cases d <;> simp [h1, h2]
theorem grtE_zero {nl nw : Nat} {up : List Nat} {d : Bool} {s p : ByteArray} {wk fr tq : Int} (h : grtE nl nw up d s wk fr tq p = 0) :
    nameB s = true ∧ d = false ∧ labB nw wk = true ∧ labB nl fr = true ∧ labB nl tq = true ∧ (fr == tq) = false ∧ leqO up tq fr = true ∧ pathB p = true := by
  unfold grtE at h
  revert h
  cases nameB s <;> cases d <;> cases labB nw wk <;> cases labB nl fr <;> cases labB nl tq <;> cases (fr == tq) <;> cases leqO up tq fr <;> cases pathB p <;> simp
theorem mk_zero {f : Nat → ByteArray} {n : Nat} {g : Nat → Int × Int} {m : Nat} (h : mkCode f n g m = 0) : anyx (fun i => !labB n (g i).1 || !labB n (g i).2) m = false := by
  unfold mkCode at h
  split at h
  · omega
  · split at h
    · omega
    · split at h
      · omega
      · next h3 => simpa using h3
theorem anyx_false {p : Nat → Bool} {n : Nat} (h : anyx p n = false) : ∀ k, k < n → p k = false := fun k hk => by
  cases hp : p k
  · rfl
  · rw [(anyx_iff p n).2 ⟨k, hk, hp⟩] at h; cases h
theorem Pol.good {P : Pol} (h : P.code = 0) : P.Good := by
  have hl : P.lim = true := by
    cases hl : P.lim
    · exfalso; rw [Pol.code, if_pos hl] at h; omega
    · rfl
  rw [Pol.code, if_neg (by rw [hl]; simp)] at h
  have hm : P.mk1 = 0 := by
    by_cases hm : P.mk1 = 0
    · exact hm
    · rw [if_pos hm] at h; exact h
  rw [if_neg (by simpa using hm)] at h
  have hp := allE_zero h
  have p0 : P.e0 = 0 := hp 0 (by omega)
  have p1 : P.e1 = 0 := hp 1 (by omega)
  have p2 : P.e2 = 0 := hp 2 (by omega)
  have p3 : P.e3 = 0 := hp 3 (by omega)
  have p4 : P.e4 = 0 := hp 4 (by omega)
  have p5 : P.e5 = 0 := hp 5 (by omega)
  refine ⟨hl, hm, fun i hi => ?_, fun i hi => srcE_zero (allE_zero p0 i hi), fun i hi => dstE_zero (allE_zero p1 i hi), fun i hi => wrkE_zero (allE_zero p2 i hi), fun i hi => rteE_zero (allE_zero p3 i hi), fun i hi => calE_ok (allE_zero p4 i hi), fun i hi => grtE_zero (allE_zero p5 i hi)⟩
  have := anyx_false (mk_zero hm) i hi
  simpa using this
end Go.Proofs.YteblahoijolegaaGreatDoor
end
section
set_option linter.all false
namespace Go.Proofs.YteblahoijolegaaGreatDoor
open Go.RowKit

/-- what a cell holds, whatever that is -/
def cellD (w : World) (a : Addr) : Value := (w.cell? a).getD (.pointer Option.none)
theorem cellD_of {w : World} {a : Addr} {v : Value} (h : w.cell? a = some v) : w.cell? a = some (cellD w a) := by simp [cellD, h]
theorem cellD_below {w w' : World} {b o : Nat} {v : Value} (hb : Below w.heap.size w w') (h : w.cell? ⟨b, o, none⟩ = some v) : w'.cell? ⟨b, o, none⟩ = some (cellD w' ⟨b, o, none⟩) := cellD_of ((hb.cell (p := ⟨b, o, none⟩) (cell_lt h)).trans h)
theorem cellD_set {w : World} {b o : Nat} {v x : Value} (h : w.cell? ⟨b, o, none⟩ = some v) : (w.setCell ⟨b, o, none⟩ x).cell? ⟨b, o, none⟩ = some (cellD (w.setCell ⟨b, o, none⟩ x) ⟨b, o, none⟩) := cellD_of (World.cell?_setCell_same _ _ _ h)
theorem frz1_below {w w' : World} {b o : Nat} {v : Value} (hb : Below w.heap.size w w') (h : w.cell? ⟨b, o, none⟩ = some v) (hf : w.frozen? ⟨b, o, none⟩ = false) : w'.frozen? ⟨b, o, none⟩ = false := by
  simp only [World.frozen?] at hf ⊢
  rw [hb.block b (cell_lt h)]; exact hf
theorem heap9 {w : World} {b : Nat} {t : TypeId} {x0 x1 x2 x3 x4 x5 x6 x7 x8 : Value} (h : w.heap[b]? = some (.cells #[x0, x1, x2, x3, x4, x5, x6, x7, x8] t)) (v0 v1 v2 v3 v4 v5 v6 v7 v8 : Value) :
    (((((((((w.setCell ⟨b, 0, none⟩ v0).setCell ⟨b, 1, none⟩ v1).setCell ⟨b, 2, none⟩ v2).setCell ⟨b, 3, none⟩ v3).setCell ⟨b, 4, none⟩ v4).setCell ⟨b, 5, none⟩ v5).setCell ⟨b, 6, none⟩ v6).setCell ⟨b, 7, none⟩ v7).setCell ⟨b, 8, none⟩ v8).heap[b]? = some (.cells #[v0, v1, v2, v3, v4, v5, v6, v7, v8] t) := by
  have h0 : (w.setCell ⟨b, 0, none⟩ v0).heap[b]? = some (.cells #[v0, x1, x2, x3, x4, x5, x6, x7, x8] t) := heap_set (o := 0) v0 h
  have h1 : ((w.setCell ⟨b, 0, none⟩ v0).setCell ⟨b, 1, none⟩ v1).heap[b]? = some (.cells #[v0, v1, x2, x3, x4, x5, x6, x7, x8] t) := heap_set (o := 1) v1 h0
  have h2 : (((w.setCell ⟨b, 0, none⟩ v0).setCell ⟨b, 1, none⟩ v1).setCell ⟨b, 2, none⟩ v2).heap[b]? = some (.cells #[v0, v1, v2, x3, x4, x5, x6, x7, x8] t) := heap_set (o := 2) v2 h1
  have h3 : ((((w.setCell ⟨b, 0, none⟩ v0).setCell ⟨b, 1, none⟩ v1).setCell ⟨b, 2, none⟩ v2).setCell ⟨b, 3, none⟩ v3).heap[b]? = some (.cells #[v0, v1, v2, v3, x4, x5, x6, x7, x8] t) := heap_set (o := 3) v3 h2
  have h4 : (((((w.setCell ⟨b, 0, none⟩ v0).setCell ⟨b, 1, none⟩ v1).setCell ⟨b, 2, none⟩ v2).setCell ⟨b, 3, none⟩ v3).setCell ⟨b, 4, none⟩ v4).heap[b]? = some (.cells #[v0, v1, v2, v3, v4, x5, x6, x7, x8] t) := heap_set (o := 4) v4 h3
  have h5 : ((((((w.setCell ⟨b, 0, none⟩ v0).setCell ⟨b, 1, none⟩ v1).setCell ⟨b, 2, none⟩ v2).setCell ⟨b, 3, none⟩ v3).setCell ⟨b, 4, none⟩ v4).setCell ⟨b, 5, none⟩ v5).heap[b]? = some (.cells #[v0, v1, v2, v3, v4, v5, x6, x7, x8] t) := heap_set (o := 5) v5 h4
  have h6 : (((((((w.setCell ⟨b, 0, none⟩ v0).setCell ⟨b, 1, none⟩ v1).setCell ⟨b, 2, none⟩ v2).setCell ⟨b, 3, none⟩ v3).setCell ⟨b, 4, none⟩ v4).setCell ⟨b, 5, none⟩ v5).setCell ⟨b, 6, none⟩ v6).heap[b]? = some (.cells #[v0, v1, v2, v3, v4, v5, v6, x7, x8] t) := heap_set (o := 6) v6 h5
  have h7 : ((((((((w.setCell ⟨b, 0, none⟩ v0).setCell ⟨b, 1, none⟩ v1).setCell ⟨b, 2, none⟩ v2).setCell ⟨b, 3, none⟩ v3).setCell ⟨b, 4, none⟩ v4).setCell ⟨b, 5, none⟩ v5).setCell ⟨b, 6, none⟩ v6).setCell ⟨b, 7, none⟩ v7).heap[b]? = some (.cells #[v0, v1, v2, v3, v4, v5, v6, v7, x8] t) := heap_set (o := 7) v7 h6
  have h8 : (((((((((w.setCell ⟨b, 0, none⟩ v0).setCell ⟨b, 1, none⟩ v1).setCell ⟨b, 2, none⟩ v2).setCell ⟨b, 3, none⟩ v3).setCell ⟨b, 4, none⟩ v4).setCell ⟨b, 5, none⟩ v5).setCell ⟨b, 6, none⟩ v6).setCell ⟨b, 7, none⟩ v7).setCell ⟨b, 8, none⟩ v8).heap[b]? = some (.cells #[v0, v1, v2, v3, v4, v5, v6, v7, v8] t) := heap_set (o := 8) v8 h7
  exact h8
end Go.Proofs.YteblahoijolegaaGreatDoor
end
