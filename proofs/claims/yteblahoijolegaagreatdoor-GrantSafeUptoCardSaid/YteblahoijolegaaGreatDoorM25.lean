import Derived.Test.YteblahoijolegaaGreatDoorM24
import Derived.Test.YteblahoijolegaaGreatDoorM20
import Derived.BigQuiet
import Derived.BigRegion
import Derived.ChangeAlike
import Derived.Deep.DeepCutAuto
import Derived.Deep.Light
import Derived.Deep.LoopGhost
import Derived.Deep.MidRow
import Derived.Deep.QuietTactic
import Derived.Deep.RegionHeld3
import Derived.Deep.WholeRow
import Derived.Defers
import Derived.Great.Walk
import Derived.Laws.BitsAllLaws
import Derived.Laws.CopyOwn
import Derived.Laws.EntriesVeiled
import Derived.Laws.LoneSync
import Derived.Laws.Pointers
import Derived.Laws.StructEq
import Derived.Lib.Hide
import Derived.Lib.LazyBuf
import Derived.Lib.SliceRun
import Derived.LoopIn
import Derived.LoopNIn
import Derived.Maps.AppendAt
import Derived.OwnWalkIn
import Derived.RangeFuncBox
import Derived.RangeFuncKeeps
import Derived.RangeFuncLeaves
import Derived.RangeFuncSeq
import Derived.RegionCalls
import Derived.RegionIn
import Derived.RegionTactic
import Derived.Shelf.Abstract
import Derived.TacticsInMore
import Derived.Test.YteblahoijolegaaGreatDoorShelf
import Derived.WalkKit
import Derived.WalkLawsBesides
import Derived.WalkSpells
import Derived.WideLaws
section
set_option linter.all false
namespace Go.Proofs.YteblahoijolegaaGreatDoor
open Go.RowKit

/-- none of a policy's slices lies below a place -/
structure PolPtr.From (q : PolPtr) (B : Nat) : Prop where
  f0 : ∀ a, q.a0 = some a → B ≤ a.block
  f1 : ∀ a, q.a1 = some a → B ≤ a.block
  f2 : ∀ a, q.a2 = some a → B ≤ a.block
  f3 : ∀ a, q.a3 = some a → B ≤ a.block
  f4 : ∀ a, q.a4 = some a → B ≤ a.block
  f5 : ∀ a, q.a5 = some a → B ≤ a.block
  f6 : ∀ a, q.a6 = some a → B ≤ a.block
  f7 : ∀ a, q.a7 = some a → B ≤ a.block
  f8 : ∀ a, q.a8 = some a → B ≤ a.block
theorem PolPtr.From.mono {q : PolPtr} {B B' : Nat} (h : q.From B) (hb : B' ≤ B) : q.From B' :=
  ⟨fun a ha => Nat.le_trans hb (h.f0 a ha), fun a ha => Nat.le_trans hb (h.f1 a ha), fun a ha => Nat.le_trans hb (h.f2 a ha), fun a ha => Nat.le_trans hb (h.f3 a ha), fun a ha => Nat.le_trans hb (h.f4 a ha), fun a ha => Nat.le_trans hb (h.f5 a ha), fun a ha => Nat.le_trans hb (h.f6 a ha), fun a ha => Nat.le_trans hb (h.f7 a ha), fun a ha => Nat.le_trans hb (h.f8 a ha)⟩
theorem SlOk.keptX {w w' : World} {ao : Option Addr} {n cp K X : Nat} {c : Nat → Nat → Value} (h : SlOk w ao n cp K c) (hX : ∀ a, ao = some a → X < a.block) (hk : Kept (fun k => k ≠ X) w w') : SlOk w' ao n cp K c :=
  ⟨h.nil, h.spot, h.cap, h.sl.keptK hk (fun _ a ha => by have := hX a ha; show a.block ≠ X; omega)⟩
theorem PolAt.keptX {w w' : World} {q : PolPtr} {P : Pol} {X : Nat} (h : PolAt w q P) (hf : q.From (X + 1)) (hk : Kept (fun k => k ≠ X) w w') : PolAt w' q P :=
  ⟨h.h0.keptX hf.f0 hk, h.h1.keptX hf.f1 hk, h.h2.keptX hf.f2 hk, h.h3.keptX hf.f3 hk, h.h4.keptX hf.f4 hk, h.h5.keptX hf.f5 hk, h.h6.keptX hf.f6 hk, h.h7.keptX hf.f7 hk, h.h8.keptX hf.f8 hk⟩
theorem latAt_ask {w w' : World} {l b bu bd n k : Nat} {up down : List Nat} {hi : Int} {c : Array Value} {fz : Nat × Nat} (h : LatAt w l b bu bd n up down hi) (hk : w.heap[k]? = some (.cells c 41 fz)) (hw : Kept (fun x => x ≠ k) w w') : LatAt w' l b bu bd n up down hi := by
  have ne : ∀ (x : Nat) (c' : Array Value) (t : TypeId) (f' : Nat × Nat), w.heap[x]? = some (.cells c' t f') → t ≠ 41 → x ≠ k := by
    rintro x c' t f' h1 h2 rfl
    rw [h1] at hk; cases hk; exact h2 rfl
  obtain ⟨nma, cpn, jf, mf, lo, h1, h2⟩ := h.blk
  refine ⟨h.ord.kept hw (ne _ _ _ _ h.ord.blk (by decide)) (ne _ _ _ _ h.ord.up (by decide)) (ne _ _ _ _ h.ord.down (by decide)), nma, cpn, jf, mf, lo, ?_, h2⟩
  exact (hw.block l (Array.getElem?_eq_some_iff.1 h1).1 (ne _ _ _ _ h1 (by decide))).trans h1
/-- a snapshot is as it was behind a store into a question that was there before it -/
theorem SnapAt.ask {w w' : World} {s : Nat} {q : PolPtr} {P : Pol} {l b bu bd X : Nat} {up down : List Nat} {hi : Int} {c : Array Value} {fz : Nat × Nat} (h : SnapAt w s q P l b bu bd up down hi) (hf : q.From (X + 1)) (hs : X < s)
    (hX : w.heap[X]? = some (.cells c 41 fz)) (hk : Kept (fun k => k ≠ X) w w') : SnapAt w' s q P l b bu bd up down hi :=
  ⟨by
    have := Cells.kept (show Cells w _ from h.box) hk (by intro x hx; simp only [List.mem_cons, List.not_mem_nil, or_false] at hx; rcases hx with rfl | rfl | rfl | rfl | rfl | rfl | rfl | rfl | rfl <;> dsimp only <;> omega)
    exact this,
   (hk.cell h.latp (by omega)), h.pol.keptX hf hk, latAt_ask h.lat hX hk, h.ok, h.small⟩
theorem clone3_string {w : World} {ao : Option Addr} {n cp : Nat} {c : Nat → Nat → Value} (h : SlOk w ao n cp 1 c) (hn : n ≤ 100000) (h1 : ∀ i j, (c i j).oneCell' = true) :
    Calls Tryz.prog 65 #[.slice ao n cp] w fun e w' => ∃ ao' cp', e = .returned (.slice ao' n cp') ∧ (SlOk w' ao' n cp' 1 c ∧ ∀ a, ao' = some a → w.heap.size ≤ a.block) ∧ Below w.heap.size w w' := by
  refine (clone_string ao n cp hn h.nil h.spot c h1 w h.sl).mono ?_
  rintro e w' ⟨v, rfl, ho, hb⟩
  obtain ⟨ao', cp', rfl, hs, hn⟩ := slOk_of_own (by omega) ho
  exact ⟨ao', cp', rfl, ⟨hs, fun a ha => (hn a ha).1⟩, hb⟩
theorem clone3_pair {w : World} {ao : Option Addr} {n cp : Nat} {c : Nat → Nat → Value} (h : SlOk w ao n cp 2 c) (hn : n ≤ 100000) (h1 : ∀ i j, (c i j).oneCell' = true) :
    Calls Tryz.prog 66 #[.slice ao n cp] w fun e w' => ∃ ao' cp', e = .returned (.slice ao' n cp') ∧ (SlOk w' ao' n cp' 2 c ∧ ∀ a, ao' = some a → w.heap.size ≤ a.block) ∧ Below w.heap.size w w' := by
  refine (clone_pair ao n cp hn h.nil h.spot c h1 w h.sl).mono ?_
  rintro e w' ⟨v, rfl, ho, hb⟩
  obtain ⟨ao', cp', rfl, hs, hn⟩ := slOk_of_own (by omega) ho
  exact ⟨ao', cp', rfl, ⟨hs, fun a ha => (hn a ha).1⟩, hb⟩
theorem clone3_source {w : World} {ao : Option Addr} {n cp : Nat} {c : Nat → Nat → Value} (h : SlOk w ao n cp 3 c) (hn : n ≤ 100000) (h1 : ∀ i j, (c i j).oneCell' = true) :
    Calls Tryz.prog 67 #[.slice ao n cp] w fun e w' => ∃ ao' cp', e = .returned (.slice ao' n cp') ∧ (SlOk w' ao' n cp' 3 c ∧ ∀ a, ao' = some a → w.heap.size ≤ a.block) ∧ Below w.heap.size w w' := by
  refine (clone_source ao n cp hn h.nil h.spot c h1 w h.sl).mono ?_
  rintro e w' ⟨v, rfl, ho, hb⟩
  obtain ⟨ao', cp', rfl, hs, hn⟩ := slOk_of_own (by omega) ho
  exact ⟨ao', cp', rfl, ⟨hs, fun a ha => (hn a ha).1⟩, hb⟩
theorem clone3_dest {w : World} {ao : Option Addr} {n cp : Nat} {c : Nat → Nat → Value} (h : SlOk w ao n cp 2 c) (hn : n ≤ 100000) (h1 : ∀ i j, (c i j).oneCell' = true) :
    Calls Tryz.prog 68 #[.slice ao n cp] w fun e w' => ∃ ao' cp', e = .returned (.slice ao' n cp') ∧ (SlOk w' ao' n cp' 2 c ∧ ∀ a, ao' = some a → w.heap.size ≤ a.block) ∧ Below w.heap.size w w' := by
  refine (clone_dest ao n cp hn h.nil h.spot c h1 w h.sl).mono ?_
  rintro e w' ⟨v, rfl, ho, hb⟩
  obtain ⟨ao', cp', rfl, hs, hn⟩ := slOk_of_own (by omega) ho
  exact ⟨ao', cp', rfl, ⟨hs, fun a ha => (hn a ha).1⟩, hb⟩
theorem clone3_work {w : World} {ao : Option Addr} {n cp : Nat} {c : Nat → Nat → Value} (h : SlOk w ao n cp 3 c) (hn : n ≤ 100000) (h1 : ∀ i j, (c i j).oneCell' = true) :
    Calls Tryz.prog 69 #[.slice ao n cp] w fun e w' => ∃ ao' cp', e = .returned (.slice ao' n cp') ∧ (SlOk w' ao' n cp' 3 c ∧ ∀ a, ao' = some a → w.heap.size ≤ a.block) ∧ Below w.heap.size w w' := by
  refine (clone_work ao n cp hn h.nil h.spot c h1 w h.sl).mono ?_
  rintro e w' ⟨v, rfl, ho, hb⟩
  obtain ⟨ao', cp', rfl, hs, hn⟩ := slOk_of_own (by omega) ho
  exact ⟨ao', cp', rfl, ⟨hs, fun a ha => (hn a ha).1⟩, hb⟩
theorem clone3_route {w : World} {ao : Option Addr} {n cp : Nat} {c : Nat → Nat → Value} (h : SlOk w ao n cp 4 c) (hn : n ≤ 100000) (h1 : ∀ i j, (c i j).oneCell' = true) :
    Calls Tryz.prog 70 #[.slice ao n cp] w fun e w' => ∃ ao' cp', e = .returned (.slice ao' n cp') ∧ (SlOk w' ao' n cp' 4 c ∧ ∀ a, ao' = some a → w.heap.size ≤ a.block) ∧ Below w.heap.size w w' := by
  refine (clone_route ao n cp hn h.nil h.spot c h1 w h.sl).mono ?_
  rintro e w' ⟨v, rfl, ho, hb⟩
  obtain ⟨ao', cp', rfl, hs, hn⟩ := slOk_of_own (by omega) ho
  exact ⟨ao', cp', rfl, ⟨hs, fun a ha => (hn a ha).1⟩, hb⟩
theorem clone3_grant {w : World} {ao : Option Addr} {n cp : Nat} {c : Nat → Nat → Value} (h : SlOk w ao n cp 5 c) (hn : n ≤ 100000) (h1 : ∀ i j, (c i j).oneCell' = true) :
    Calls Tryz.prog 71 #[.slice ao n cp] w fun e w' => ∃ ao' cp', e = .returned (.slice ao' n cp') ∧ (SlOk w' ao' n cp' 5 c ∧ ∀ a, ao' = some a → w.heap.size ≤ a.block) ∧ Below w.heap.size w w' := by
  refine (clone_grant ao n cp hn h.nil h.spot c h1 w h.sl).mono ?_
  rintro e w' ⟨v, rfl, ho, hb⟩
  obtain ⟨ao', cp', rfl, hs, hn⟩ := slOk_of_own (by omega) ho
  exact ⟨ao', cp', rfl, ⟨hs, fun a ha => (hn a ha).1⟩, hb⟩
set_option maxHeartbeats 8000000 in
set_option maxRecDepth 20000 in
theorem policy_Copy2 {w : World} {q : PolPtr} {P : Pol} (h : PolAt w q P) (hsm : P.Small) :
    Calls Tryz.prog 18 #[.agg (polCells q P)] w fun e w' => (∃ q', e = .returned (.agg (polCells q' P)) ∧ PolAt w' q' P ∧ q'.From w.heap.size) ∧ Below w.heap.size w w' := by
  obtain ⟨w0, hw0⟩ : ∃ w0 : World, w0 = (w.alloc (.cells (polCells q P) 30)).alloc (.cells #[.slice none 0 0, .slice none 0 0, .slice none 0 0, .slice none 0 0, .slice none 0 0, .slice none 0 0, .slice none 0 0, .slice none 0 0, .slice none 0 0] 30) := ⟨_, rfl⟩
  have hb0 : Below w.heap.size w w0 := by rw [hw0]; (repeat first | exact Below.refl _ _ | assumption | refine Below.alloc ?_ (by simp; try omega) _ | refine Below.drew ?_ | refine Below.drewN ?_ _ | refine Below.setCell ?_ (by simp; try omega) _ | refine Below.trans ?_ (Below.mono (by assumption) (by simp; try omega)))
  have g1 : w0.heap[w.heap.size]? = some (.cells (polCells q P) 30) := by rw [hw0]; (simp only [heap_drew, heap_allocs, World.size_alloc, if_true] <;> repeat (first | rw [if_pos (by omega)] | rw [if_neg (by omega)]))
  have g2 : w0.heap[w.heap.size + 1]? = some (.cells #[.slice none 0 0, .slice none 0 0, .slice none 0 0, .slice none 0 0, .slice none 0 0, .slice none 0 0, .slice none 0 0, .slice none 0 0, .slice none 0 0] 30) := by rw [hw0]; (simp only [heap_drew, heap_allocs, World.size_alloc, if_true] <;> repeat (first | rw [if_pos (by omega)] | rw [if_neg (by omega)]))
  have hi : (Tryz.prog.info? 30).map (·.size) = some 9 := by kernel_rfl
  have HI := Lib.hid hi; clear hi
  have p0 : ∀ k, w0.cell? ⟨w.heap.size, k, none⟩ = (#[.slice q.a0 P.nl q.c0, .slice q.a1 P.nb q.c1, .slice q.a2 P.ns q.c2, .slice q.a3 P.nd q.c3, .slice q.a4 P.nw q.c4, .slice q.a5 P.nr q.c5, .slice q.a6 P.nc q.c6, .slice q.a7 P.ng q.c7, .slice q.a8 P.na q.c8] : Array Value)[k]? := fun k => cell_of g1
  have r0 : ∀ k, k < 9 → w0.cell? ⟨w.heap.size + 1, k, none⟩ = some (cellD w0 ⟨w.heap.size + 1, k, none⟩) := fun k hk => cellD_of (v := .slice none 0 0) ((cell_of g2).trans (by rcases (by omega : k = 0 ∨ k = 1 ∨ k = 2 ∨ k = 3 ∨ k = 4 ∨ k = 5 ∨ k = 6 ∨ k = 7 ∨ k = 8) with rfl | rfl | rfl | rfl | rfl | rfl | rfl | rfl | rfl <;> rfl))
  have hlt : w.heap.size + 1 < w0.heap.size := (Array.getElem?_eq_some_iff.1 g2).1
  have H0 := Lib.hid (show ∀ W, Below w.heap.size w W → _ from fun W (hW : Below w.heap.size w W) => clone3_string (h.h0.below hW) (Nat.le_trans hsm.nl (by omega)) (strC_one _))
  have H1 := Lib.hid (show ∀ W, Below w.heap.size w W → _ from fun W (hW : Below w.heap.size w W) => clone3_pair (h.h1.below hW) (Nat.le_trans hsm.nb (by omega)) (prC_one _))
  have H2 := Lib.hid (show ∀ W, Below w.heap.size w W → _ from fun W (hW : Below w.heap.size w W) => clone3_source (h.h2.below hW) (Nat.le_trans hsm.ns (by omega)) (siiC_one _))
  have H3 := Lib.hid (show ∀ W, Below w.heap.size w W → _ from fun W (hW : Below w.heap.size w W) => clone3_dest (h.h3.below hW) (Nat.le_trans hsm.nd (by omega)) (siC_one _))
  have H4 := Lib.hid (show ∀ W, Below w.heap.size w W → _ from fun W (hW : Below w.heap.size w W) => clone3_work (h.h4.below hW) (Nat.le_trans hsm.nw (by omega)) (siiC_one _))
  have H5 := Lib.hid (show ∀ W, Below w.heap.size w W → _ from fun W (hW : Below w.heap.size w W) => clone3_route (h.h5.below hW) (Nat.le_trans hsm.nr (by omega)) (rtC_one _))
  have H6 := Lib.hid (show ∀ W, Below w.heap.size w W → _ from fun W (hW : Below w.heap.size w W) => clone3_pair (h.h6.below hW) (Nat.le_trans hsm.nc (by omega)) (prC_one _))
  have H7 := Lib.hid (show ∀ W, Below w.heap.size w W → _ from fun W (hW : Below w.heap.size w W) => clone3_grant (h.h7.below hW) (Nat.le_trans hsm.ng (by omega)) (grC_one _))
  have H8 := Lib.hid (show ∀ W, Below w.heap.size w W → _ from fun W (hW : Below w.heap.size w W) => clone3_string (h.h8.below hW) (Nat.le_trans hsm.na (by omega)) (strC_one _))
  have HW := Lib.hid hw0; clear hw0
  have G2 := Lib.hid g2
  clear h hsm g1 g2
  simp only [polCells] at HW ⊢
  have f0 : ∀ k, w0.frozen? ⟨w.heap.size + 1, k, none⟩ = false := fun k => free_of G2.out
  go_enter Tryz.func18, Tryz.ntmps18
  go_wp2_with fail
  rw [← HW.out]
  have hne : w.heap.size ≠ w.heap.size + 1 := by omega
  have tok0 : True := trivial
  go_region_held3 (fun w' => (∀ k, w'.cell? ⟨w.heap.size, k, none⟩ = (#[.slice q.a0 P.nl q.c0, .slice q.a1 P.nb q.c1, .slice q.a2 P.ns q.c2, .slice q.a3 P.nd q.c3, .slice q.a4 P.nw q.c4, .slice q.a5 P.nr q.c5, .slice q.a6 P.nc q.c6, .slice q.a7 P.ng q.c7, .slice q.a8 P.na q.c8] : Array Value)[k]?) ∧ (∀ k, k < 9 → w'.cell? ⟨w.heap.size + 1, k, none⟩ = some (cellD w' ⟨w.heap.size + 1, k, none⟩)) ∧ (∀ k, w'.frozen? ⟨w.heap.size + 1, k, none⟩ = false))
        (first | (have _t := tok9; have t0 : (∀ k, w9.cell? ⟨w.heap.size, k, none⟩ = (#[.slice q.a0 P.nl q.c0, .slice q.a1 P.nb q.c1, .slice q.a2 P.ns q.c2, .slice q.a3 P.nd q.c3, .slice q.a4 P.nw q.c4, .slice q.a5 P.nr q.c5, .slice q.a6 P.nc q.c6, .slice q.a7 P.ng q.c7, .slice q.a8 P.na q.c8] : Array Value)[k]?) ∧ (∀ k, k < 9 → w9.cell? ⟨w.heap.size + 1, k, none⟩ = some (cellD w9 ⟨w.heap.size + 1, k, none⟩)) ∧ (∀ k, w9.frozen? ⟨w.heap.size + 1, k, none⟩ = false) := (by assumption); exact keep3_set hne (keep3_set hne (keep3_set hne (keep3_set hne (keep3_set hne (keep3_set hne (keep3_set hne (keep3_set hne (keep3_set hne t0))))))))) | (have _t := tok1; go_split_ands; exact keep3 (w' := w1) hx0 (by assumption) (by assumption) (by assumption)) | (have _t := tok2; go_split_ands; exact keep3 (w' := w2) hx1 (by assumption) (by assumption) (by assumption)) | (have _t := tok3; go_split_ands; exact keep3 (w' := w3) hx2 (by assumption) (by assumption) (by assumption)) | (have _t := tok4; go_split_ands; exact keep3 (w' := w4) hx3 (by assumption) (by assumption) (by assumption)) | (have _t := tok5; go_split_ands; exact keep3 (w' := w5) hx4 (by assumption) (by assumption) (by assumption)) | (have _t := tok6; go_split_ands; exact keep3 (w' := w6) hx5 (by assumption) (by assumption) (by assumption)) | (have _t := tok7; go_split_ands; exact keep3 (w' := w7) hx6 (by assumption) (by assumption) (by assumption)) | (have _t := tok8; go_split_ands; exact keep3 (w' := w8) hx7 (by assumption) (by assumption) (by assumption)) | (have _t := tok9; go_split_ands; exact keep3 (w' := w9) hx8 (by assumption) (by assumption) (by assumption)) | exact ⟨p0, r0, f0⟩)
        (first
          | (have _t := tok0; go_at_call 65; refine (H0.out _ (Below.drew hb0)).mono ?_; rintro e w1 ⟨b0, d0, rfl, ⟨ho0, hf0⟩, hx0⟩; have hb1 : Below w.heap.size w w1 := hb0.trans (((Below.refl w0.heap.size w0).drew.trans hx0).mono hb0.size); clear tok0 p0 r0 f0; have tok1 : True := trivial)
          | (have _t := tok1; go_at_call 66; refine (H1.out _ hb1).mono ?_; rintro e w2 ⟨b1, d1, rfl, ⟨ho1, hf1⟩, hx1⟩; have hb2 : Below w.heap.size w w2 := hb1.trans (hx1.mono hb1.size); clear tok1; have tok2 : True := trivial)
          | (have _t := tok2; go_at_call 67; refine (H2.out _ hb2).mono ?_; rintro e w3 ⟨b2, d2, rfl, ⟨ho2, hf2⟩, hx2⟩; have hb3 : Below w.heap.size w w3 := hb2.trans (hx2.mono hb2.size); clear tok2; have tok3 : True := trivial)
          | (have _t := tok3; go_at_call 68; refine (H3.out _ hb3).mono ?_; rintro e w4 ⟨b3, d3, rfl, ⟨ho3, hf3⟩, hx3⟩; have hb4 : Below w.heap.size w w4 := hb3.trans (hx3.mono hb3.size); clear tok3; have tok4 : True := trivial)
          | (have _t := tok4; go_at_call 69; refine (H4.out _ hb4).mono ?_; rintro e w5 ⟨b4, d4, rfl, ⟨ho4, hf4⟩, hx4⟩; have hb5 : Below w.heap.size w w5 := hb4.trans (hx4.mono hb4.size); clear tok4; have tok5 : True := trivial)
          | (have _t := tok5; go_at_call 70; refine (H5.out _ hb5).mono ?_; rintro e w6 ⟨b5, d5, rfl, ⟨ho5, hf5⟩, hx5⟩; have hb6 : Below w.heap.size w w6 := hb5.trans (hx5.mono hb5.size); clear tok5; have tok6 : True := trivial)
          | (have _t := tok6; go_at_call 66; refine (H6.out _ hb6).mono ?_; rintro e w7 ⟨b6, d6, rfl, ⟨ho6, hf6⟩, hx6⟩; have hb7 : Below w.heap.size w w7 := hb6.trans (hx6.mono hb6.size); clear tok6; have tok7 : True := trivial)
          | (have _t := tok7; go_at_call 71; refine (H7.out _ hb7).mono ?_; rintro e w8 ⟨b7, d7, rfl, ⟨ho7, hf7⟩, hx7⟩; have hb8 : Below w.heap.size w w8 := hb7.trans (hx7.mono hb7.size); clear tok7; have tok8 : True := trivial)
          | (have _t := tok8; go_at_call 65; refine (H8.out _ hb8).mono ?_; rintro e w9 ⟨b8, d8, rfl, ⟨ho8, hf8⟩, hx8⟩; have hb9 : Below w.heap.size w w9 := hb8.trans (hx8.mono hb8.size); clear tok8; have tok9 : True := trivial))
  all_goals
    have hg9 : w9.heap[w.heap.size + 1]? = some (.cells #[.slice none 0 0, .slice none 0 0, .slice none 0 0, .slice none 0 0, .slice none 0 0, .slice none 0 0, .slice none 0 0, .slice none 0 0, .slice none 0 0] 30) := by
      have h1 : Below w0.heap.size w0 w1 := (Below.refl _ w0).drew.trans (hx0.mono (Nat.le_refl _))
      have h2 := h1.trans (hx1.mono h1.size)
      have h3 := h2.trans (hx2.mono h2.size)
      have h4 := h3.trans (hx3.mono h3.size)
      have h5 := h4.trans (hx4.mono h4.size)
      have h6 := h5.trans (hx5.mono h5.size)
      have h7 := h6.trans (hx6.mono h6.size)
      have h8 := h7.trans (hx7.mono h7.size)
      have h9 := h8.trans (hx8.mono h8.size)
      exact (h9.block _ hlt).trans G2.out
    have y1 := ho1.below hx2
    have y0 := (ho0.below hx1).below hx2
    have z0 := y0.below hx3; have z1 := y1.below hx3; have z2 := ho2.below hx3
    have u0 := z0.below hx4; have u1 := z1.below hx4; have u2 := z2.below hx4; have u3 := ho3.below hx4
    have v0 := u0.below hx5; have v1 := u1.below hx5; have v2 := u2.below hx5; have v3 := u3.below hx5; have v4 := ho4.below hx5
    have x0 := v0.below hx6; have x1 := v1.below hx6; have x2 := v2.below hx6; have x3 := v3.below hx6; have x4 := v4.below hx6; have x5 := ho5.below hx6
    have m0 := x0.below hx7; have m1 := x1.below hx7; have m2 := x2.below hx7; have m3 := x3.below hx7; have m4 := x4.below hx7; have m5 := x5.below hx7; have m6 := ho6.below hx7
    have n0 := m0.below hx8; have n1 := m1.below hx8; have n2 := m2.below hx8; have n3 := m3.below hx8; have n4 := m4.below hx8; have n5 := m5.below hx8; have n6 := m6.below hx8; have n7 := ho7.below hx8
    have hge : w.heap.size ≤ w.heap.size + 1 := Nat.le_succ _
    have hp9 : PolAt w9 ⟨b0, b1, b2, b3, b4, b5, b6, b7, b8, d0, d1, d2, d3, d4, d5, d6, d7, d8⟩ P := ⟨n0, n1, n2, n3, n4, n5, n6, n7, ho8⟩
    obtain ⟨wf, hwf⟩ : ∃ wf : World, wf = (((((((((w9.setCell ⟨w.heap.size + 1, 0, none⟩ (.slice b0 P.nl d0)).setCell ⟨w.heap.size + 1, 1, none⟩ (.slice b1 P.nb d1)).setCell ⟨w.heap.size + 1, 2, none⟩ (.slice b2 P.ns d2)).setCell ⟨w.heap.size + 1, 3, none⟩ (.slice b3 P.nd d3)).setCell ⟨w.heap.size + 1, 4, none⟩ (.slice b4 P.nw d4)).setCell ⟨w.heap.size + 1, 5, none⟩ (.slice b5 P.nr d5)).setCell ⟨w.heap.size + 1, 6, none⟩ (.slice b6 P.nc d6)).setCell ⟨w.heap.size + 1, 7, none⟩ (.slice b7 P.ng d7)).setCell ⟨w.heap.size + 1, 8, none⟩ (.slice b8 P.na d8)) := ⟨_, rfl⟩
    have hgf : wf.heap[w.heap.size + 1]? = some (.cells (polCells ⟨b0, b1, b2, b3, b4, b5, b6, b7, b8, d0, d1, d2, d3, d4, d5, d6, d7, d8⟩ P) 30) := by
      rw [hwf]
      exact heap9 hg9 _ _ _ _ _ _ _ _ _
    have hbf : Below w.heap.size w wf := by
      rw [hwf]
      exact ((((((((hb9.setCell hge _).setCell hge _).setCell hge _).setCell hge _).setCell hge _).setCell hge _).setCell hge _).setCell hge _).setCell hge _
    rw [← hwf]
    have HGF := Lib.hid hgf
    have HBF := Lib.hid hbf
    have hk9 : Kept (fun k => k ≠ w.heap.size + 1) w9 wf := by
      rw [hwf]
      exact (((((((((Kept.refl _ w9).setCell (by simp) _).setCell (by simp) _).setCell (by simp) _).setCell (by simp) _).setCell (by simp) _).setCell (by simp) _).setCell (by simp) _).setCell (by simp) _).setCell (by simp) _
    have hpf : PolAt wf ⟨b0, b1, b2, b3, b4, b5, b6, b7, b8, d0, d1, d2, d3, d4, d5, d6, d7, d8⟩ P :=
      ⟨slOk_ne n0 (by omega) hg9 (strC_ns _) hk9, slOk_ne n1 (by omega) hg9 (prC_ns _) hk9, slOk_ne n2 (by omega) hg9 (siiC_ns _) hk9, slOk_ne n3 (by omega) hg9 (siC_ns _) hk9, slOk_ne n4 (by omega) hg9 (siiC_ns _) hk9, slOk_ne n5 (by omega) hg9 (rtC_ns _) hk9, slOk_ne n6 (by omega) hg9 (prC_ns _) hk9, slOk_ne n7 (by omega) hg9 (grC_ns _) hk9, slOk_ne ho8 (by omega) hg9 (strC_ns _) hk9⟩
    have HP9 := Lib.hid hpf
    have hw0' := hb0.size
    have hs1 := hx0.size; have hs2 := hx1.size; have hs3 := hx2.size; have hs4 := hx3.size; have hs5 := hx4.size; have hs6 := hx5.size; have hs7 := hx6.size; have hs8 := hx7.size
    simp only [size_drew] at hs1 hf0
    have hfr : PolPtr.From ⟨b0, b1, b2, b3, b4, b5, b6, b7, b8, d0, d1, d2, d3, d4, d5, d6, d7, d8⟩ w.heap.size := ⟨fun a ha => by have := hf0 a ha; omega, fun a ha => by have := hf1 a ha; omega, fun a ha => by have := hf2 a ha; omega, fun a ha => by have := hf3 a ha; omega, fun a ha => by have := hf4 a ha; omega, fun a ha => by have := hf5 a ha; omega, fun a ha => by have := hf6 a ha; omega, fun a ha => by have := hf7 a ha; omega, fun a ha => by have := hf8 a ha; omega⟩
    have HFR := Lib.hid hfr
    clear hfr hf0 hf1 hf2 hf3 hf4 hf5 hf6 hf7 hf8 hs1 hs2 hs3 hs4 hs5 hs6 hs7 hs8 hw0'
    clear hwf hgf hbf hp9 hg9 hpf hk9
    go_wp2_with fail
    refine bodyPost_ret (results_cell_row rfl _ _ _ _ _ _ _ rfl HGF.out Tryz.underlying30 rfl HI.out) rfl ?_
    exact ⟨⟨_, rfl, HP9.out, HFR.out⟩, HBF.out⟩
end Go.Proofs.YteblahoijolegaaGreatDoor
end
