import Derived.Test.YteblahoijolegaaGreatDoorM20
import Derived.Test.YteblahoijolegaaGreatDoorM31
import Derived.Test.YteblahoijolegaaGreatDoorM22
import Derived.BigQuiet
import Derived.BigRegion
import Derived.ChangeAlike
import Derived.Deep.DeepCutAuto
import Derived.Deep.Light
import Derived.Deep.LoopGhost
import Derived.Deep.MidRow
import Derived.Deep.QuietTactic
import Derived.Deep.RegionHeld3
import Derived.Deep.WholeRow
import Derived.Defers
import Derived.Great.Walk
import Derived.Laws.BitsAllLaws
import Derived.Laws.CopyOwn
import Derived.Laws.EntriesVeiled
import Derived.Laws.LoneSync
import Derived.Laws.Pointers
import Derived.Laws.StructEq
import Derived.Lib.Hide
import Derived.Lib.ItoaLen
import Derived.Lib.LazyBuf
import Derived.Lib.SliceRun
import Derived.LoopIn
import Derived.LoopNIn
import Derived.Maps.AppendAt
import Derived.OwnWalkIn
import Derived.RangeFuncBox
import Derived.RangeFuncKeeps
import Derived.RangeFuncLeaves
import Derived.RangeFuncSeq
import Derived.RegionCalls
import Derived.RegionIn
import Derived.RegionTactic
import Derived.Shelf.Abstract
import Derived.TacticsInMore
import Derived.Test.YteblahoijolegaaGreatDoorShelf
import Derived.WalkKit
import Derived.WalkLawsBesides
import Derived.WalkSpells
import Derived.WideLaws
section
set_option linter.all false
namespace Go.Proofs.YteblahoijolegaaGreatDoor
open Go.RowKit

theorem SbAt.belowW {B b N : Nat} {w w' : World} (h : SbAt B b N w) (hb : Below w.heap.size w w') : SbAt B b N w' := by
  obtain ⟨bs, h1, h2⟩ := h
  exact ⟨bs, h1.belowW hb, h2⟩
theorem SbAt.mono {B b N N' : Nat} {w : World} (h : SbAt B b N w) (hn : N ≤ N') : SbAt B b N' w := by
  obtain ⟨bs, h1, h2⟩ := h
  exact ⟨bs, h1, Nat.le_trans h2 hn⟩
theorem sb_fresh (w : World) : SbAt w.heap.size w.heap.size 0 (w.alloc (.cells #[.pointer none, .slice none 0 0] 155)) := ⟨[], Lib.fresh_isBuilder _ _ w, Nat.le_refl _⟩
theorem SbAt.lt {B b N : Nat} {w : World} (h : SbAt B b N w) : b < w.heap.size := by
  obtain ⟨bs, h1, _⟩ := h
  exact h1.elim (fun h => h.lt) (fun h => h.lt)
theorem heap_alloc_keep {w : World} {o v : Obj} {k : Nat} (h : w.heap[k]? = some v) : (w.alloc o).heap[k]? = some v := (Below.heap_alloc _ _ _ (Array.getElem?_eq_some_iff.1 h).1).trans h
theorem sayKeep {wl wz : World} {X bo : Nat} {o : Obj} {c : Array Value} {t : TypeId} (_hl : X < wl.heap.size) (h : KeptB bo (wl.alloc o).drew wz) (hX : wl.heap[X]? = some (.cells c t)) (hb : X ≠ bo) (ht : t ≠ 5 := by decide) : wz.heap[X]? = some (.cells c t) := by
  have h1 : (wl.alloc o).drew.heap[X]? = some (.cells c t) := heap_alloc_keep hX
  rw [h X (Array.getElem?_eq_some_iff.1 h1).1 hb (fun cs fz h2 => by rw [h1] at h2; cases h2; exact ht rfl)]
  exact h1
theorem sayKeep2 {wv wz : World} {X bo : Nat} {o : Obj} {c : Array Value} {t : TypeId} (h : KeptB bo (wv.alloc o) wz) (hX : wv.heap[X]? = some (.cells c t)) (hb : X ≠ bo) (ht : t ≠ 5 := by decide) : wz.heap[X]? = some (.cells c t) := by
  have h1 : (wv.alloc o).heap[X]? = some (.cells c t) := heap_alloc_keep hX
  rw [h X (Array.getElem?_eq_some_iff.1 h1).1 hb (fun cs fz h2 => by rw [h1] at h2; cases h2; exact ht rfl)]
  exact h1
theorem sayCell {wl wz : World} {bo b o' : Nat} {o : Obj} {v : Value} (h : Below bo (wl.alloc o).drew wz) (hc : wl.cell? ⟨b, o', none⟩ = some v) (hb : b < bo) : wz.cell? ⟨b, o', none⟩ = some v := by
  have h1 : (wl.alloc o).drew.cell? ⟨b, o', none⟩ = some v := (cell_alloc_lt (cell_lt hc)).trans hc
  exact (h.cell (p := ⟨b, o', none⟩) hb).trans h1
/-- what Print looks at -/
structure EnvP (w : World) (bp : Nat) (q : PolPtr) (P : Pol) : Prop where
  box : PolBox w bp 0 q P
  pol : PolAt w q P
  gl : GlAt w
theorem EnvP.below {w w' : World} {bp : Nat} {q : PolPtr} {P : Pol} (h : EnvP w bp q P) (hb : Below w.heap.size w w') : EnvP w' bp q P := ⟨h.box.below hb, h.pol.below hb, h.gl.below hb⟩
/-- what Print says -/
def PriPost (P : Pol) (w : World) (e : Ending) (w' : World) : Prop :=
  ((P.code ≠ 0 ∧ e = .returned (.tuple #[.string ⟨#[]⟩, .int .i64 P.code])) ∨ (P.code = 0 ∧ ∃ s, e = .returned (.tuple #[.string s, .int .i64 0]))) ∧ Below w.heap.size w w'
set_option maxHeartbeats 8000000 in
set_option maxRecDepth 20000 in
theorem policy_Print {w : World} {q : PolPtr} {P : Pol} (h : PolAt w q P) (hz : P.Sized) (hg : GlAt w) :
    Calls Tryz.prog 23 #[.agg (polCells q P)] w (PriPost P w) := by
  obtain ⟨a0, a1, a2, a3, a4, a5, a6, a7, a8, k0, k1, k2, k3, k4, k5, k6, k7, k8⟩ := q
  obtain ⟨w0, hw0⟩ : ∃ w0 : World, w0 = w.alloc (.cells (polCells ⟨a0, a1, a2, a3, a4, a5, a6, a7, a8, k0, k1, k2, k3, k4, k5, k6, k7, k8⟩ P) 30) := ⟨_, rfl⟩
  have hb0 : Below w.heap.size w w0 := by rw [hw0]; (repeat first | exact Below.refl _ _ | assumption | refine Below.alloc ?_ (by simp; try omega) _ | refine Below.drew ?_ | refine Below.drewN ?_ _ | refine Below.setCell ?_ (by simp; try omega) _ | refine Below.trans ?_ (Below.mono (by assumption) (by simp; try omega)))
  have g1 : w0.heap[w.heap.size]? = some (.cells (polCells ⟨a0, a1, a2, a3, a4, a5, a6, a7, a8, k0, k1, k2, k3, k4, k5, k6, k7, k8⟩ P) 30) := by rw [hw0]; exact heap_new w _
  have hck := policy_Check (h.below hb0) hz (hg.below hb0).db
  have HW := Lib.hid hw0; clear hw0
  have HH := Lib.hid (h.below hb0); clear h
  have HG := Lib.hid (hg.below hb0); clear hg
  have HZ := Lib.hid hz; clear hz
  have HB := Lib.hid (polBox_of g1)
  clear g1
  simp only [polCells] at HW hck ⊢
  by_cases hc : P.code = 0
  · rw [hc] at hck
    have hsm : P.Small := by
      refine P.small ?_
      cases hl : P.lim
      · exfalso; rw [Pol.code, if_pos hl] at hc; omega
      · rfl
    have HSm := Lib.hid hsm; clear hsm
    have HGd := Lib.hid (Pol.good hc)
    have HC := Lib.hid hc; clear hc
    go_enter Tryz.func23, Tryz.ntmps23
    go_wp2_with fail
    rw [← HW.out]
    refine hck.mono ?_
    rintro e w1 ⟨rfl, hb1⟩
    obtain ⟨w2, hw2⟩ : ∃ w2 : World, w2 = w1.alloc (.cells #[.pointer none, .slice none 0 0] 155) := ⟨_, rfl⟩
    have hb2 : Below w1.heap.size w1 w2 := by rw [hw2]; (repeat first | exact Below.refl _ _ | assumption | refine Below.alloc ?_ (by simp; try omega) _ | refine Below.drew ?_ | refine Below.drewN ?_ _ | refine Below.setCell ?_ (by simp; try omega) _ | refine Below.trans ?_ (Below.mono (by assumption) (by simp; try omega)))
    have hE1 : EnvP w1 w.heap.size _ P := ⟨HB.out.below hb1, HH.out.below hb1, HG.out.below hb1⟩
    have hs2 : SbAt w1.heap.size w1.heap.size 0 w2 := by rw [hw2]; exact sb_fresh w1
    have HE1 := Lib.hid hE1; clear hE1
    have HB1 := Lib.hid (hb0.trans (hb1.mono hb0.size))
    have HS2 := Lib.hid hs2; clear hs2
    have HB2 := Lib.hid hb2
    have HW2 := Lib.hid hw2
    clear hw2 hb2
    have c0 := ((HE1.out.below HB2.out).box).head
    simp only [Nat.zero_add] at c0
    have hsm := HSm.out.nl
    rw [HW2.out] at c0
    go_wp2_with fail
    rw [← HW2.out]
    go_loopg [39] P.nl (fun r s39 wr => ∃ i : Nat, i ≤ P.nl ∧ r = P.nl - i ∧ s39 = .int .i64 i ∧ SbAt w1.heap.size w1.heap.size (12000007 * i) wr ∧ Below w1.heap.size w1 wr)
    case atStart => exact ⟨0, by omega, rfl, rfl, HS2.out, HB2.out⟩
    case round =>
      obtain ⟨i, hi, rfl, rfl, hsb, hb⟩ := hrel
      by_cases hlt : i < P.nl
      · obtain ⟨a, off, rfl, hcs⟩ := ((HE1.out.below hb).pol.h0.sl).resolve_left (by omega)
        obtain ⟨r, hrr⟩ : ∃ r, P.nl - i = r + 1 := ⟨P.nl - i - 1, by omega⟩
        have HRR := Lib.hid hrr; clear hrr
        have hlt2 : (i : Int) < P.nl := by omega
        have d0 := hcs i hlt 0 (by omega)
        simp only [Nat.mul_one, Nat.add_zero, strC] at d0
        clear hcs
        obtain ⟨wl, hwl⟩ : ∃ wl : World, wl = wr.alloc (.cells #[.string ⟨#[108, 97, 98, 101, 108]⟩, .string (P.lab i)] 9) := ⟨_, rfl⟩
        have hbl : Below wr.heap.size wr wl := by rw [hwl]; (repeat first | exact Below.refl _ _ | assumption | refine Below.alloc ?_ (by simp; try omega) _ | refine Below.drew ?_ | refine Below.drewN ?_ _ | refine Below.setCell ?_ (by simp; try omega) _ | refine Below.trans ?_ (Below.mono (by assumption) (by simp; try omega)))
        have hsay := print_say (hsb.belowW hbl) (Nat.le_trans hb.size hbl.size) wr.heap.size 2 [⟨#[108, 97, 98, 101, 108]⟩, P.lab i] (by
          have hg : wl.heap[wr.heap.size]? = some (.cells #[.string ⟨#[108, 97, 98, 101, 108]⟩, .string (P.lab i)] 9) := by rw [hwl]; exact heap_new wr _
          intro j x hx
          rw [cell_of hg]
          rcases j with _ | _ | j
          · simp at hx; subst hx; rfl
          · simp at hx; subst hx; rfl
          · simp at hx) (by rw [hwl]; simp) (by simp) (by simp) (by
          intro x hx
          simp at hx
          rcases hx with rfl | rfl
          · decide
          · exact Nat.le_trans (HZ.out.lab i hlt) (by omega)) (by omega)
        have HSay := Lib.hid hsay; clear hsay
        have HWl := Lib.hid hwl
        have HBl := Lib.hid hbl
        clear hwl hbl hsb
        go_wp2_with fail
        rw [← HWl.out]
        refine HSay.out.mono ?_
        rintro e wz ⟨rfl, hz1, hz2, -⟩
        have hbz := (hb.trans (HBl.out.mono hb.size)).trans hz2
        have HZ1 := Lib.hid hz1; clear hz1
        go_wp2_with fail
        go_roundg r
        case measure => have := HRR.out; omega
        case rel => exact ⟨i + 1, by omega, by have := HRR.out; omega, by go_num, HZ1.out.mono (by omega), hbz⟩
      · obtain rfl : i = P.nl := by omega
        have hsb2 : SbAt w1.heap.size w1.heap.size 120000070 wr := hsb.mono (by omega)
        have HSb := Lib.hid hsb2; clear hsb hsb2
        have HBr := Lib.hid hb; clear hb
        have c0' := ((HE1.out.below HBr.out).box).tail.head
        simp only [Nat.zero_add] at c0'
        clear c0
        go_wp2_with fail
        have hsm1 := HSm.out.nb
        go_loopg [51] P.nb (fun r s51 wr => ∃ i : Nat, i ≤ P.nb ∧ r = P.nb - i ∧ s51 = .int .i64 i ∧ SbAt w1.heap.size w1.heap.size (120000070 + 12000007 * i) wr ∧ Below w1.heap.size w1 wr)
        case atStart => exact ⟨0, by omega, rfl, rfl, HSb.out, HBr.out⟩
        case round =>
          obtain ⟨i, hi, rfl, rfl, hsb, hb⟩ := hrel
          by_cases hlt : i < P.nb
          · obtain ⟨a, off, rfl, hcs⟩ := ((HE1.out.below hb).pol.h1.sl).resolve_left (by omega)
            obtain ⟨r, hrr⟩ : ∃ r, P.nb - i = r + 1 := ⟨P.nb - i - 1, by omega⟩
            have HRR := Lib.hid hrr; clear hrr
            have hlt2 : (i : Int) < P.nb := by omega
            obtain ⟨x, hx, hxl⟩ := lab_nat (HGd.out.bel i hlt).1
            obtain ⟨y, hy, hyl⟩ := lab_nat (HGd.out.bel i hlt).2
            have d0 : wr.cell? ⟨a, off + i * 2, none⟩ = some (.int .i64 x) := by have := hcs i hlt 0 (by omega); rw [← hx]; simpa [prC] using this
            have d1 : wr.cell? ⟨a, off + i * 2 + 1, none⟩ = some (.int .i64 y) := by have := hcs i hlt 1 (by omega); rw [← hy]; simpa [prC] using this
            clear hcs
            obtain ⟨wl, hwl⟩ : ∃ wl : World, wl = wr.alloc (.cells #[.int .i64 x, .int .i64 y] 60) := ⟨_, rfl⟩
            have hbl : Below wr.heap.size wr wl := by rw [hwl]; (repeat first | exact Below.refl _ _ | assumption | refine Below.alloc ?_ (by simp; try omega) _ | refine Below.drew ?_ | refine Below.drewN ?_ _ | refine Below.setCell ?_ (by simp; try omega) _ | refine Below.trans ?_ (Below.mono (by assumption) (by simp; try omega)))
            have hX : wl.heap[wr.heap.size]? = some (.cells #[.int .i64 x, .int .i64 y] 60) := by rw [hwl]; exact heap_new wr _
            have hbw := hb.trans (hbl.mono hb.size)
            have x0 := cell_of (o := 0) hX
            have x1 := cell_of (o := 1) hX
            obtain ⟨al, offl, rfl, hcl⟩ := ((HE1.out.below hbw).pol.h0.sl).resolve_left (by omega)
            have l0 : wl.cell? ⟨al, offl + x, none⟩ = some (.string (P.lab x)) := by have := hcl x hxl 0 (by omega); simpa [strC] using this
            have l1 : wl.cell? ⟨al, offl + y, none⟩ = some (.string (P.lab y)) := by have := hcl y hyl 0 (by omega); simpa [strC] using this
            have p0 := ((HE1.out.below hbw).box).head
            simp only [Nat.zero_add] at p0
            clear hcl
            have hxi : (x : Int) < P.nl := by omega
            have hyi : (y : Int) < P.nl := by omega
            have hlp : w.heap.size < w1.heap.size := cell_lt (by have := HE1.out.box.head; simpa using this)
            have hll : al < w1.heap.size := by
              obtain ⟨al', offl', h1, h2⟩ := (HE1.out.pol.h0.sl).resolve_left (by omega)
              cases h1
              exact cell_lt (h2 x hxl 0 (by omega))
            have hbX : wr.heap.size ≠ w1.heap.size := by
              have h1 : w1.heap.size < wr.heap.size := hsb.lt
              omega
            have HWl := Lib.hid hwl
            have HBl := Lib.hid hbl
            have HBw := Lib.hid hbw
            have HX := Lib.hid hX
            clear hwl hbl hbw hX
            have hsay := print_say (w := (wl.alloc (.cells #[.string ⟨#[98, 101, 108, 111, 119]⟩, .string (P.lab x), .string (P.lab y)] 9)).drew) (hsb.belowW (HBl.out.trans (((Below.refl _ wl).alloc (Nat.le_refl _) _).drew.mono HBl.out.size))) (Nat.le_trans HBw.out.size (by simp [World.drew])) wl.heap.size 3 [⟨#[98, 101, 108, 111, 119]⟩, P.lab x, P.lab y] (by
              have hg : (wl.alloc (.cells #[.string ⟨#[98, 101, 108, 111, 119]⟩, .string (P.lab x), .string (P.lab y)] 9)).drew.heap[wl.heap.size]? = some (.cells #[.string ⟨#[98, 101, 108, 111, 119]⟩, .string (P.lab x), .string (P.lab y)] 9) := heap_new wl _
              intro j z hz
              rw [cell_of hg]
              rcases j with _ | _ | _ | j
              · simp at hz; subst hz; rfl
              · simp at hz; subst hz; rfl
              · simp at hz; subst hz; rfl
              · simp at hz) (by simp [World.drew]) (by simp) (by simp) (by
              intro z hz
              simp at hz
              rcases hz with rfl | rfl | rfl
              · decide
              · exact Nat.le_trans (HZ.out.lab x hxl) (by omega)
              · exact Nat.le_trans (HZ.out.lab y hyl) (by omega)) (by omega)
            have HSay := Lib.hid hsay; clear hsay
            clear hsb
            have hlX : wr.heap.size < wl.heap.size := (Array.getElem?_eq_some_iff.1 HX.out).1
            go_wp2_with fail
            rw [← HWl.out]
            go_region_held3 (fun w' => w'.heap[wr.heap.size]? = some (.cells #[.int .i64 x, .int .i64 y] 60) ∧ w'.cell? ⟨wr.heap.size, 0, none⟩ = some (.int .i64 x) ∧ w'.cell? ⟨wr.heap.size, 1, none⟩ = some (.int .i64 y) ∧ w'.cell? ⟨w.heap.size, 0, none⟩ = some (.slice (some ⟨al, offl, none⟩) P.nl k0) ∧ w'.cell? ⟨al, offl + x, none⟩ = some (.string (P.lab x)) ∧ w'.cell? ⟨al, offl + y, none⟩ = some (.string (P.lab y)))
              (first | exact ⟨HX.out, x0, x1, p0, l0, l1⟩ | (go_split_ands; exact ⟨hXz, cell_of (o := 0) hXz, cell_of (o := 1) hXz, hpz, hlz0, hlz1⟩) | (go_split_ands; exact ⟨heap_alloc_keep (by assumption), (cell_alloc_lt (cell_lt (by assumption))).trans (by assumption), (cell_alloc_lt (cell_lt (by assumption))).trans (by assumption), (cell_alloc_lt (cell_lt (by assumption))).trans (by assumption), (cell_alloc_lt (cell_lt (by assumption))).trans (by assumption), (cell_alloc_lt (cell_lt (by assumption))).trans (by assumption)⟩))
              (first
                | (go_at_call 76; refine HSay.out.mono ?_; rintro e wz ⟨rfl, hz1, hz2, hz3⟩; have hXz := sayKeep hlX hz3 HX.out hbX; have hpz := sayCell hz2 p0 hlp; have hlz0 := sayCell hz2 l0 hll; have hlz1 := sayCell hz2 l1 hll))
            all_goals
              have hbz : Below w1.heap.size w1 wz := (HBw.out.alloc (HBw.out.size) _).drew.trans hz2
              have HZ1 := Lib.hid hz1; clear hz1
              go_wp2_with fail
              go_roundg r
              case measure => have := HRR.out; omega
              case rel => exact ⟨i + 1, by omega, by have := HRR.out; omega, by go_num, HZ1.out.mono (by omega), hbz⟩
          · obtain rfl : i = P.nb := by omega
            have hsb2 : SbAt w1.heap.size w1.heap.size 660000385 wr := hsb.mono (by omega)
            have HSb := Lib.hid hsb2; clear hsb hsb2
            have HBr := Lib.hid hb; clear hb
            have c0' := ((HE1.out.below HBr.out).box).tail.tail.head
            simp only [Nat.zero_add] at c0'
            go_wp2_with fail
            clear c0' hsm1 hi
            have hsm1 := HSm.out.ns
            go_loopg [74] P.ns (fun r s74 wr => ∃ i : Nat, i ≤ P.ns ∧ r = P.ns - i ∧ s74 = .int .i64 i ∧ SbAt w1.heap.size w1.heap.size (660000385 + 12000007 * i) wr ∧ Below w1.heap.size w1 wr)
            case atStart => exact ⟨0, by omega, rfl, rfl, HSb.out, HBr.out⟩
            case round =>
              obtain ⟨i, hi, rfl, rfl, hsb, hb⟩ := hrel
              by_cases hlt : i < P.ns
              · obtain ⟨a, off, rfl, hcs⟩ := ((HE1.out.below hb).pol.h2.sl).resolve_left (by omega)
                obtain ⟨r, hrr⟩ : ∃ r, P.ns - i = r + 1 := ⟨P.ns - i - 1, by omega⟩
                have HRR := Lib.hid hrr; clear hrr
                have hlt2 : (i : Int) < P.ns := by omega
                have d0 : wr.cell? ⟨a, off + i * 3, none⟩ = some (.string (P.src i).1) := by have := hcs i hlt 0 (by omega); simpa [siiC] using this
                have d1 : wr.cell? ⟨a, off + i * 3 + 1, none⟩ = some (.int .i64 (P.src i).2.1) := by have := hcs i hlt 1 (by omega); simpa [siiC] using this
                have d2 : wr.cell? ⟨a, off + i * 3 + 2, none⟩ = some (.int .i64 (P.src i).2.2) := by have := hcs i hlt 2 (by omega); simpa [siiC] using this
                clear hcs
                obtain ⟨wl, hwl⟩ : ∃ wl : World, wl = wr.alloc (.cells #[.string (P.src i).1, .int .i64 (P.src i).2.1, .int .i64 (P.src i).2.2] 96) := ⟨_, rfl⟩
                have hbl : Below wr.heap.size wr wl := by rw [hwl]; (repeat first | exact Below.refl _ _ | assumption | refine Below.alloc ?_ (by simp; try omega) _ | refine Below.drew ?_ | refine Below.drewN ?_ _ | refine Below.setCell ?_ (by simp; try omega) _ | refine Below.trans ?_ (Below.mono (by assumption) (by simp; try omega)))
                have hX : wl.heap[wr.heap.size]? = some (.cells #[.string (P.src i).1, .int .i64 (P.src i).2.1, .int .i64 (P.src i).2.2] 96) := by rw [hwl]; exact heap_new wr _
                have hbw := hb.trans (hbl.mono hb.size)
                have x0 := cell_of (o := 0) hX
                have x1 := cell_of (o := 1) hX
                have x2 := cell_of (o := 2) hX
                have hE := HE1.out.below hbw.drew
                have hX0 : wl.drew.heap[wr.heap.size]? = some (.cells #[.string (P.src i).1, .int .i64 (P.src i).2.1, .int .i64 (P.src i).2.2] 96) := hX
                have p0 := hE.box.head
                simp only [Nat.zero_add] at p0
                have HC0 := Lib.hid (print_label p0 hE.pol.h0.sl ((P.src i).2.1) ((HGd.out.src i hlt).1) (Nat.le_trans HSm.out.nl (by omega)))
                have HC1 := Lib.hid (print_label p0 hE.pol.h0.sl ((P.src i).2.2) ((HGd.out.src i hlt).2) (Nat.le_trans HSm.out.nl (by omega)))
                have hbX : wr.heap.size ≠ w1.heap.size := by
                  have h1 : w1.heap.size < wr.heap.size := hsb.lt
                  omega
                have HSay := Lib.hid (show ∀ wv : World, Below wl.heap.size wl wv → ∀ dg : ByteArray, dg.size ≤ 2000000 → _ from fun wv hwv dg hdg => print_say (w := wv.alloc (.cells #[.string ⟨#[115, 111, 117, 114, 99, 101]⟩, .string (P.src i).1, .string (P.lab ((P.src i).2.1).toNat), .string (P.lab ((P.src i).2.2).toNat)] 9)) (hsb.belowW ((hbl.trans (hwv.mono hbl.size)).alloc (Nat.le_trans hbl.size hwv.size) _)) (Nat.le_trans hbw.size (Nat.le_trans hwv.size (by simp))) wv.heap.size 4 [⟨#[115, 111, 117, 114, 99, 101]⟩, (P.src i).1, (P.lab ((P.src i).2.1).toNat), (P.lab ((P.src i).2.2).toNat)] (by
                  have hg := heap_new wv (.cells #[.string ⟨#[115, 111, 117, 114, 99, 101]⟩, .string (P.src i).1, .string (P.lab ((P.src i).2.1).toNat), .string (P.lab ((P.src i).2.2).toNat)] 9)
                  intro j z hz
                  rw [cell_of hg]
                  rcases j with _ | _ | _ | _ | j
                  · simp at hz; subst hz; rfl
                  · simp at hz; subst hz; rfl
                  · simp at hz; subst hz; rfl
                  · simp at hz; subst hz; rfl
                  · simp at hz) (by simp) (by simp) (by simp) (by
                  intro z hz
                  simp only [List.mem_cons, List.not_mem_nil, or_false] at hz
                  rcases hz with rfl | rfl | rfl | rfl
                  · decide
                  · exact Nat.le_trans (HZ.out.src i hlt) (by omega)
                  · exact Nat.le_trans (HZ.out.lab _ (by have := of_decide_eq_true ((HGd.out.src i hlt).1); omega)) (by omega)
                  · exact Nat.le_trans (HZ.out.lab _ (by have := of_decide_eq_true ((HGd.out.src i hlt).2); omega)) (by omega)) (by omega))
                have HWl := Lib.hid hwl
                have HBw := Lib.hid hbw
                have HX := Lib.hid hX
                clear hwl hbl hbw hX hsb hE p0
                have HX0 := Lib.hid hX0; clear hX0
                go_wp2_with fail
                rw [← HWl.out]
                have tok0 : True := trivial
                go_region_held3 (fun w' => w'.heap[wr.heap.size]? = some (.cells #[.string (P.src i).1, .int .i64 (P.src i).2.1, .int .i64 (P.src i).2.2] 96) ∧ w'.cell? ⟨wr.heap.size, 0, none⟩ = some (.string (P.src i).1) ∧ w'.cell? ⟨wr.heap.size, 1, none⟩ = some (.int .i64 (P.src i).2.1) ∧ w'.cell? ⟨wr.heap.size, 2, none⟩ = some (.int .i64 (P.src i).2.2))
                  (first | exact ⟨hXz, cell_of (o := 0) hXz, cell_of (o := 1) hXz, cell_of (o := 2) hXz⟩ | exact ⟨HX.out, x0, x1, x2⟩ | (go_split_ands; exact ⟨heap_alloc_keep (by assumption), (cell_alloc_lt (cell_lt (by assumption))).trans (by assumption), (cell_alloc_lt (cell_lt (by assumption))).trans (by assumption), (cell_alloc_lt (cell_lt (by assumption))).trans (by assumption)⟩))
                  (first
                    | (have _t := tok0; go_at_call 79; refine HC0.out.mono ?_; rintro e w' ⟨rfl, rfl⟩; clear tok0; have tok1 : True := trivial)
                    | (have _t := tok1; go_at_call 79; refine HC1.out.mono ?_; rintro e w' ⟨rfl, rfl⟩; clear tok1; have tok2 : True := trivial)
                    | (have _t := tok2; go_at_call 76; refine (HSay.out wl.drew (Below.refl _ wl).drew ⟨#[]⟩ (by decide)).mono ?_; rintro e wz ⟨rfl, hz1, hz2, hz3⟩; have hXz := sayKeep2 hz3 HX0.out hbX))
                all_goals
                  have hbz : Below w1.heap.size w1 wz := (HBw.out.drew.alloc HBw.out.size _).trans hz2
                  have HZ1 := Lib.hid hz1; clear hz1
                  go_wp2_with fail
                  go_roundg r
                  case measure => have := HRR.out; omega
                  case rel => exact ⟨i + 1, by omega, by have := HRR.out; omega, by go_num, HZ1.out.mono (by omega), hbz⟩
              · obtain rfl : i = P.ns := by omega
                have hsb2 : SbAt w1.heap.size w1.heap.size 732000427 wr := hsb.mono (by omega)
                have HSb := Lib.hid hsb2; clear hsb hsb2
                have HBr := Lib.hid hb; clear hb
                have c0' := ((HE1.out.below HBr.out).box).tail.tail.tail.head
                simp only [Nat.zero_add] at c0'
                go_wp2_with fail
                clear c0' hsm1 hi
                have hsm1 := HSm.out.nd
                go_loopg [95] P.nd (fun r s95 wr => ∃ i : Nat, i ≤ P.nd ∧ r = P.nd - i ∧ s95 = .int .i64 i ∧ SbAt w1.heap.size w1.heap.size (732000427 + 12000007 * i) wr ∧ Below w1.heap.size w1 wr)
                case atStart => exact ⟨0, by omega, rfl, rfl, HSb.out, HBr.out⟩
                case round =>
                  obtain ⟨i, hi, rfl, rfl, hsb, hb⟩ := hrel
                  by_cases hlt : i < P.nd
                  · obtain ⟨a, off, rfl, hcs⟩ := ((HE1.out.below hb).pol.h3.sl).resolve_left (by omega)
                    obtain ⟨r, hrr⟩ : ∃ r, P.nd - i = r + 1 := ⟨P.nd - i - 1, by omega⟩
                    have HRR := Lib.hid hrr; clear hrr
                    have hlt2 : (i : Int) < P.nd := by omega
                    have d0 : wr.cell? ⟨a, off + i * 2, none⟩ = some (.string (P.dst i).1) := by have := hcs i hlt 0 (by omega); simpa [siC] using this
                    have d1 : wr.cell? ⟨a, off + i * 2 + 1, none⟩ = some (.int .i64 (P.dst i).2) := by have := hcs i hlt 1 (by omega); simpa [siC] using this
                    clear hcs
                    obtain ⟨wl, hwl⟩ : ∃ wl : World, wl = wr.alloc (.cells #[.string (P.dst i).1, .int .i64 (P.dst i).2] 100) := ⟨_, rfl⟩
                    have hbl : Below wr.heap.size wr wl := by rw [hwl]; (repeat first | exact Below.refl _ _ | assumption | refine Below.alloc ?_ (by simp; try omega) _ | refine Below.drew ?_ | refine Below.drewN ?_ _ | refine Below.setCell ?_ (by simp; try omega) _ | refine Below.trans ?_ (Below.mono (by assumption) (by simp; try omega)))
                    have hX : wl.heap[wr.heap.size]? = some (.cells #[.string (P.dst i).1, .int .i64 (P.dst i).2] 100) := by rw [hwl]; exact heap_new wr _
                    have hbw := hb.trans (hbl.mono hb.size)
                    have x0 := cell_of (o := 0) hX
                    have x1 := cell_of (o := 1) hX
                    have hE := HE1.out.below hbw.drew
                    have hX0 : wl.drew.heap[wr.heap.size]? = some (.cells #[.string (P.dst i).1, .int .i64 (P.dst i).2] 100) := hX
                    have p0 := hE.box.head
                    simp only [Nat.zero_add] at p0
                    have HC0 := Lib.hid (print_label p0 hE.pol.h0.sl ((P.dst i).2) (HGd.out.dst i hlt) (Nat.le_trans HSm.out.nl (by omega)))
                    have hbX : wr.heap.size ≠ w1.heap.size := by
                      have h1 : w1.heap.size < wr.heap.size := hsb.lt
                      omega
                    have HSay := Lib.hid (show ∀ wv : World, Below wl.heap.size wl wv → ∀ dg : ByteArray, dg.size ≤ 2000000 → _ from fun wv hwv dg hdg => print_say (w := wv.alloc (.cells #[.string ⟨#[100, 101, 115, 116]⟩, .string (P.dst i).1, .string (P.lab ((P.dst i).2).toNat)] 9)) (hsb.belowW ((hbl.trans (hwv.mono hbl.size)).alloc (Nat.le_trans hbl.size hwv.size) _)) (Nat.le_trans hbw.size (Nat.le_trans hwv.size (by simp))) wv.heap.size 3 [⟨#[100, 101, 115, 116]⟩, (P.dst i).1, (P.lab ((P.dst i).2).toNat)] (by
                      have hg := heap_new wv (.cells #[.string ⟨#[100, 101, 115, 116]⟩, .string (P.dst i).1, .string (P.lab ((P.dst i).2).toNat)] 9)
                      intro j z hz
                      rw [cell_of hg]
                      rcases j with _ | _ | _ | j
                      · simp at hz; subst hz; rfl
                      · simp at hz; subst hz; rfl
                      · simp at hz; subst hz; rfl
                      · simp at hz) (by simp) (by simp) (by simp) (by
                      intro z hz
                      simp only [List.mem_cons, List.not_mem_nil, or_false] at hz
                      rcases hz with rfl | rfl | rfl
                      · decide
                      · exact Nat.le_trans (HZ.out.dst i hlt) (by omega)
                      · exact Nat.le_trans (HZ.out.lab _ (by have := of_decide_eq_true (HGd.out.dst i hlt); omega)) (by omega)) (by omega))
                    have HWl := Lib.hid hwl
                    have HBw := Lib.hid hbw
                    have HX := Lib.hid hX
                    clear hwl hbl hbw hX hsb hE p0
                    have HX0 := Lib.hid hX0; clear hX0
                    go_wp2_with fail
                    rw [← HWl.out]
                    have tok0 : True := trivial
                    go_region_held3 (fun w' => w'.heap[wr.heap.size]? = some (.cells #[.string (P.dst i).1, .int .i64 (P.dst i).2] 100) ∧ w'.cell? ⟨wr.heap.size, 0, none⟩ = some (.string (P.dst i).1) ∧ w'.cell? ⟨wr.heap.size, 1, none⟩ = some (.int .i64 (P.dst i).2))
                      (first | exact ⟨hXz, cell_of (o := 0) hXz, cell_of (o := 1) hXz⟩ | exact ⟨HX.out, x0, x1⟩ | (go_split_ands; exact ⟨heap_alloc_keep (by assumption), (cell_alloc_lt (cell_lt (by assumption))).trans (by assumption), (cell_alloc_lt (cell_lt (by assumption))).trans (by assumption)⟩))
                      (first
                        | (have _t := tok0; go_at_call 79; refine HC0.out.mono ?_; rintro e w' ⟨rfl, rfl⟩; clear tok0; have tok1 : True := trivial)
                        | (have _t := tok1; go_at_call 76; refine (HSay.out wl.drew (Below.refl _ wl).drew ⟨#[]⟩ (by decide)).mono ?_; rintro e wz ⟨rfl, hz1, hz2, hz3⟩; have hXz := sayKeep2 hz3 HX0.out hbX))
                    all_goals
                      have hbz : Below w1.heap.size w1 wz := (HBw.out.drew.alloc HBw.out.size _).trans hz2
                      have HZ1 := Lib.hid hz1; clear hz1
                      go_wp2_with fail
                      go_roundg r
                      case measure => have := HRR.out; omega
                      case rel => exact ⟨i + 1, by omega, by have := HRR.out; omega, by go_num, HZ1.out.mono (by omega), hbz⟩
                  · obtain rfl : i = P.nd := by omega
                    have hsb2 : SbAt w1.heap.size w1.heap.size 804000469 wr := hsb.mono (by omega)
                    have HSb := Lib.hid hsb2; clear hsb hsb2
                    have HBr := Lib.hid hb; clear hb
                    have c0' := ((HE1.out.below HBr.out).box).tail.tail.tail.tail.head
                    simp only [Nat.zero_add] at c0'
                    go_wp2_with fail
                    clear c0' hsm1 hi
                    have hsm1 := HSm.out.nw
                    go_loopg [112] P.nw (fun r s112 wr => ∃ i : Nat, i ≤ P.nw ∧ r = P.nw - i ∧ s112 = .int .i64 i ∧ SbAt w1.heap.size w1.heap.size (804000469 + 12000007 * i) wr ∧ Below w1.heap.size w1 wr)
                    case atStart => exact ⟨0, by omega, rfl, rfl, HSb.out, HBr.out⟩
                    case round =>
                      obtain ⟨i, hi, rfl, rfl, hsb, hb⟩ := hrel
                      by_cases hlt : i < P.nw
                      · obtain ⟨a, off, rfl, hcs⟩ := ((HE1.out.below hb).pol.h4.sl).resolve_left (by omega)
                        obtain ⟨r, hrr⟩ : ∃ r, P.nw - i = r + 1 := ⟨P.nw - i - 1, by omega⟩
                        have HRR := Lib.hid hrr; clear hrr
                        have hlt2 : (i : Int) < P.nw := by omega
                        obtain ⟨dn, hdn⟩ : ∃ dn : Nat, (P.wrk i).2.2 = dn := ⟨((P.wrk i).2.2).toNat, by have := (HGd.out.wrk i hlt).2; omega⟩
                        have hdn2 : dn ≤ 1000 := by have := (HGd.out.wrk i hlt).2; omega
                        have d0 : wr.cell? ⟨a, off + i * 3, none⟩ = some (.string (P.wrk i).1) := by have := hcs i hlt 0 (by omega); simpa [siiC] using this
                        have d1 : wr.cell? ⟨a, off + i * 3 + 1, none⟩ = some (.int .i64 (P.wrk i).2.1) := by have := hcs i hlt 1 (by omega); simpa [siiC] using this
                        have d2 : wr.cell? ⟨a, off + i * 3 + 2, none⟩ = some (.int .i64 (dn : Nat)) := by have := hcs i hlt 2 (by omega); rw [← hdn]; simpa [siiC] using this
                        clear hcs
                        obtain ⟨wl, hwl⟩ : ∃ wl : World, wl = wr.alloc (.cells #[.string (P.wrk i).1, .int .i64 (P.wrk i).2.1, .int .i64 (dn : Nat)] 62) := ⟨_, rfl⟩
                        have hbl : Below wr.heap.size wr wl := by rw [hwl]; (repeat first | exact Below.refl _ _ | assumption | refine Below.alloc ?_ (by simp; try omega) _ | refine Below.drew ?_ | refine Below.drewN ?_ _ | refine Below.setCell ?_ (by simp; try omega) _ | refine Below.trans ?_ (Below.mono (by assumption) (by simp; try omega)))
                        have hX : wl.heap[wr.heap.size]? = some (.cells #[.string (P.wrk i).1, .int .i64 (P.wrk i).2.1, .int .i64 (dn : Nat)] 62) := by rw [hwl]; exact heap_new wr _
                        have hbw := hb.trans (hbl.mono hb.size)
                        have x0 := cell_of (o := 0) hX
                        have x1 := cell_of (o := 1) hX
                        have x2 := cell_of (o := 2) hX
                        have hE := HE1.out.below hbw.drew
                        have hX0 : wl.drew.heap[wr.heap.size]? = some (.cells #[.string (P.wrk i).1, .int .i64 (P.wrk i).2.1, .int .i64 (dn : Nat)] 62) := hX
                        have p0 := hE.box.head
                        simp only [Nat.zero_add] at p0
                        have HC0 := Lib.hid (print_label p0 hE.pol.h0.sl ((P.wrk i).2.1) ((HGd.out.wrk i hlt).1) (Nat.le_trans HSm.out.nl (by omega)))
                        have HC1 := Lib.hid (print_digits dn hdn2 wl.drew hE.gl)
                        have hbX : wr.heap.size ≠ w1.heap.size := by
                          have h1 : w1.heap.size < wr.heap.size := hsb.lt
                          omega
                        have HSay := Lib.hid (show ∀ wv : World, Below wl.heap.size wl wv → ∀ dg : ByteArray, dg.size ≤ 2000000 → _ from fun wv hwv dg hdg => print_say (w := wv.alloc (.cells #[.string ⟨#[119, 111, 114, 107]⟩, .string (P.wrk i).1, .string (P.lab ((P.wrk i).2.1).toNat), .string dg] 9)) (hsb.belowW ((hbl.trans (hwv.mono hbl.size)).alloc (Nat.le_trans hbl.size hwv.size) _)) (Nat.le_trans hbw.size (Nat.le_trans hwv.size (by simp))) wv.heap.size 4 [⟨#[119, 111, 114, 107]⟩, (P.wrk i).1, (P.lab ((P.wrk i).2.1).toNat), dg] (by
                          have hg := heap_new wv (.cells #[.string ⟨#[119, 111, 114, 107]⟩, .string (P.wrk i).1, .string (P.lab ((P.wrk i).2.1).toNat), .string dg] 9)
                          intro j z hz
                          rw [cell_of hg]
                          rcases j with _ | _ | _ | _ | j
                          · simp at hz; subst hz; rfl
                          · simp at hz; subst hz; rfl
                          · simp at hz; subst hz; rfl
                          · simp at hz; subst hz; rfl
                          · simp at hz) (by simp) (by simp) (by simp) (by
                          intro z hz
                          simp only [List.mem_cons, List.not_mem_nil, or_false] at hz
                          rcases hz with rfl | rfl | rfl | rfl
                          · decide
                          · exact Nat.le_trans (HZ.out.wrk i hlt) (by omega)
                          · exact Nat.le_trans (HZ.out.lab _ (by have := of_decide_eq_true ((HGd.out.wrk i hlt).1); omega)) (by omega)
                          · exact hdg) (by omega))
                        have HWl := Lib.hid hwl
                        have HBw := Lib.hid hbw
                        have HX := Lib.hid hX
                        clear hwl hbl hbw hX hsb hE p0
                        have HX0 := Lib.hid hX0; clear hX0
                        go_wp2_with fail
                        rw [← HWl.out]
                        have tok0 : True := trivial
                        go_region_held3 (fun w' => w'.heap[wr.heap.size]? = some (.cells #[.string (P.wrk i).1, .int .i64 (P.wrk i).2.1, .int .i64 (dn : Nat)] 62) ∧ w'.cell? ⟨wr.heap.size, 0, none⟩ = some (.string (P.wrk i).1) ∧ w'.cell? ⟨wr.heap.size, 1, none⟩ = some (.int .i64 (P.wrk i).2.1) ∧ w'.cell? ⟨wr.heap.size, 2, none⟩ = some (.int .i64 (dn : Nat)))
                          (first | exact ⟨hXz, cell_of (o := 0) hXz, cell_of (o := 1) hXz, cell_of (o := 2) hXz⟩ | exact ⟨hXd, cell_of (o := 0) hXd, cell_of (o := 1) hXd, cell_of (o := 2) hXd⟩ | exact ⟨HX.out, x0, x1, x2⟩ | (go_split_ands; exact ⟨heap_alloc_keep (by assumption), (cell_alloc_lt (cell_lt (by assumption))).trans (by assumption), (cell_alloc_lt (cell_lt (by assumption))).trans (by assumption), (cell_alloc_lt (cell_lt (by assumption))).trans (by assumption)⟩))
                          (first
                            | (have _t := tok0; go_at_call 79; refine HC0.out.mono ?_; rintro e w' ⟨rfl, rfl⟩; clear tok0; have tok1 : True := trivial)
                            | (have _t := tok1; go_at_call 81; refine HC1.out.mono ?_; rintro e wd ⟨⟨dg, rfl, hdg⟩, hbd⟩; clear tok1; have tok2 : True := trivial; have hXd := (hbd.block _ (Array.getElem?_eq_some_iff.1 HX0.out).1).trans HX0.out)
                            | (have _t := tok2; go_at_call 76; refine (HSay.out wd ((Below.refl _ wl).drew.trans hbd) dg hdg).mono ?_; rintro e wz ⟨rfl, hz1, hz2, hz3⟩; have hXz := sayKeep2 hz3 hXd hbX))
                        all_goals
                          have hbz : Below w1.heap.size w1 wz := ((HBw.out.trans (((Below.refl _ wl).drew.trans hbd).mono HBw.out.size)).alloc (Nat.le_trans HBw.out.size hbd.size) _).trans hz2
                          have HZ1 := Lib.hid hz1; clear hz1
                          go_wp2_with fail
                          go_roundg r
                          case measure => have := HRR.out; omega
                          case rel => exact ⟨i + 1, by omega, by have := HRR.out; omega, by go_num, HZ1.out.mono (by omega), hbz⟩
                      · obtain rfl : i = P.nw := by omega
                        have hsb2 : SbAt w1.heap.size w1.heap.size 876000511 wr := hsb.mono (by omega)
                        have HSb := Lib.hid hsb2; clear hsb hsb2
                        have HBr := Lib.hid hb; clear hb
                        have c0' := ((HE1.out.below HBr.out).box).tail.tail.tail.tail.tail.head
                        simp only [Nat.zero_add] at c0'
                        go_wp2_with fail
                        clear c0' hsm1 hi
                        have hsm1 := HSm.out.nr
                        go_loopg [133] P.nr (fun r s133 wr => ∃ i : Nat, i ≤ P.nr ∧ r = P.nr - i ∧ s133 = .int .i64 i ∧ SbAt w1.heap.size w1.heap.size (876000511 + 12000007 * i) wr ∧ Below w1.heap.size w1 wr)
                        case atStart => exact ⟨0, by omega, rfl, rfl, HSb.out, HBr.out⟩
                        case round =>
                          obtain ⟨i, hi, rfl, rfl, hsb, hb⟩ := hrel
                          by_cases hlt : i < P.nr
                          · obtain ⟨a, off, rfl, hcs⟩ := ((HE1.out.below hb).pol.h5.sl).resolve_left (by omega)
                            obtain ⟨r, hrr⟩ : ∃ r, P.nr - i = r + 1 := ⟨P.nr - i - 1, by omega⟩
                            have HRR := Lib.hid hrr; clear hrr
                            have hlt2 : (i : Int) < P.nr := by omega
                            obtain ⟨dn, hdn⟩ : ∃ dn : Nat, (P.rte i).2.2.2 = dn := ⟨((P.rte i).2.2.2).toNat, by have := (HGd.out.rte i hlt).2; omega⟩
                            have hdn2 : dn ≤ 1000 := by have := (HGd.out.rte i hlt).2; omega
                            have d0 : wr.cell? ⟨a, off + i * 4, none⟩ = some (.string (P.rte i).1) := by have := hcs i hlt 0 (by omega); simpa [rtC] using this
                            have d1 : wr.cell? ⟨a, off + i * 4 + 1, none⟩ = some (.string (P.rte i).2.1) := by have := hcs i hlt 1 (by omega); simpa [rtC] using this
                            have d2 : wr.cell? ⟨a, off + i * 4 + 2, none⟩ = some (.int .i64 (P.rte i).2.2.1) := by have := hcs i hlt 2 (by omega); simpa [rtC] using this
                            have d3 : wr.cell? ⟨a, off + i * 4 + 3, none⟩ = some (.int .i64 (dn : Nat)) := by have := hcs i hlt 3 (by omega); rw [← hdn]; simpa [rtC] using this
                            clear hcs
                            obtain ⟨wl, hwl⟩ : ∃ wl : World, wl = wr.alloc (.cells #[.string (P.rte i).1, .string (P.rte i).2.1, .int .i64 (P.rte i).2.2.1, .int .i64 (dn : Nat)] 130) := ⟨_, rfl⟩
                            have hbl : Below wr.heap.size wr wl := by rw [hwl]; (repeat first | exact Below.refl _ _ | assumption | refine Below.alloc ?_ (by simp; try omega) _ | refine Below.drew ?_ | refine Below.drewN ?_ _ | refine Below.setCell ?_ (by simp; try omega) _ | refine Below.trans ?_ (Below.mono (by assumption) (by simp; try omega)))
                            have hX : wl.heap[wr.heap.size]? = some (.cells #[.string (P.rte i).1, .string (P.rte i).2.1, .int .i64 (P.rte i).2.2.1, .int .i64 (dn : Nat)] 130) := by rw [hwl]; exact heap_new wr _
                            have hbw := hb.trans (hbl.mono hb.size)
                            have x0 := cell_of (o := 0) hX
                            have x1 := cell_of (o := 1) hX
                            have x2 := cell_of (o := 2) hX
                            have x3 := cell_of (o := 3) hX
                            have hE := HE1.out.below hbw.drew
                            have hX0 : wl.drew.heap[wr.heap.size]? = some (.cells #[.string (P.rte i).1, .string (P.rte i).2.1, .int .i64 (P.rte i).2.2.1, .int .i64 (dn : Nat)] 130) := hX
                            have p4 := hE.box.tail.tail.tail.tail.head
                            simp only [Nat.zero_add] at p4
                            have HC0 := Lib.hid (print_work p4 hE.pol.h4.sl ((P.rte i).2.2.1) ((HGd.out.rte i hlt).1) (Nat.le_trans HSm.out.nw (by omega)))
                            have HC1 := Lib.hid (print_digits dn hdn2 wl.drew hE.gl)
                            have hbX : wr.heap.size ≠ w1.heap.size := by
                              have h1 : w1.heap.size < wr.heap.size := hsb.lt
                              omega
                            have HSay := Lib.hid (show ∀ wv : World, Below wl.heap.size wl wv → ∀ dg : ByteArray, dg.size ≤ 2000000 → _ from fun wv hwv dg hdg => print_say (w := wv.alloc (.cells #[.string ⟨#[114, 111, 117, 116, 101]⟩, .string (P.rte i).1, .string (P.rte i).2.1, .string (P.wrk ((P.rte i).2.2.1).toNat).1, .string dg] 9)) (hsb.belowW ((hbl.trans (hwv.mono hbl.size)).alloc (Nat.le_trans hbl.size hwv.size) _)) (Nat.le_trans hbw.size (Nat.le_trans hwv.size (by simp))) wv.heap.size 5 [⟨#[114, 111, 117, 116, 101]⟩, (P.rte i).1, (P.rte i).2.1, (P.wrk ((P.rte i).2.2.1).toNat).1, dg] (by
                              have hg := heap_new wv (.cells #[.string ⟨#[114, 111, 117, 116, 101]⟩, .string (P.rte i).1, .string (P.rte i).2.1, .string (P.wrk ((P.rte i).2.2.1).toNat).1, .string dg] 9)
                              intro j z hz
                              rw [cell_of hg]
                              rcases j with _ | _ | _ | _ | _ | j
                              · simp at hz; subst hz; rfl
                              · simp at hz; subst hz; rfl
                              · simp at hz; subst hz; rfl
                              · simp at hz; subst hz; rfl
                              · simp at hz; subst hz; rfl
                              · simp at hz) (by simp) (by simp) (by simp) (by
                              intro z hz
                              simp only [List.mem_cons, List.not_mem_nil, or_false] at hz
                              rcases hz with rfl | rfl | rfl | rfl | rfl
                              · decide
                              · exact Nat.le_trans ((HZ.out.rte i hlt).1) (by omega)
                              · exact Nat.le_trans ((HZ.out.rte i hlt).2) (by omega)
                              · exact Nat.le_trans (HZ.out.wrk _ (by have := of_decide_eq_true ((HGd.out.rte i hlt).1); omega)) (by omega)
                              · exact hdg) (by omega))
                            have HWl := Lib.hid hwl
                            have HBw := Lib.hid hbw
                            have HX := Lib.hid hX
                            clear hwl hbl hbw hX hsb hE p4
                            have HX0 := Lib.hid hX0; clear hX0
                            go_wp2_with fail
                            rw [← HWl.out]
                            have tok0 : True := trivial
                            go_region_held3 (fun w' => w'.heap[wr.heap.size]? = some (.cells #[.string (P.rte i).1, .string (P.rte i).2.1, .int .i64 (P.rte i).2.2.1, .int .i64 (dn : Nat)] 130) ∧ w'.cell? ⟨wr.heap.size, 0, none⟩ = some (.string (P.rte i).1) ∧ w'.cell? ⟨wr.heap.size, 1, none⟩ = some (.string (P.rte i).2.1) ∧ w'.cell? ⟨wr.heap.size, 2, none⟩ = some (.int .i64 (P.rte i).2.2.1) ∧ w'.cell? ⟨wr.heap.size, 3, none⟩ = some (.int .i64 (dn : Nat)))
                              (first | exact ⟨hXz, cell_of (o := 0) hXz, cell_of (o := 1) hXz, cell_of (o := 2) hXz, cell_of (o := 3) hXz⟩ | exact ⟨hXd, cell_of (o := 0) hXd, cell_of (o := 1) hXd, cell_of (o := 2) hXd, cell_of (o := 3) hXd⟩ | exact ⟨HX.out, x0, x1, x2, x3⟩ | (go_split_ands; exact ⟨heap_alloc_keep (by assumption), (cell_alloc_lt (cell_lt (by assumption))).trans (by assumption), (cell_alloc_lt (cell_lt (by assumption))).trans (by assumption), (cell_alloc_lt (cell_lt (by assumption))).trans (by assumption), (cell_alloc_lt (cell_lt (by assumption))).trans (by assumption)⟩))
                              (first
                                | (have _t := tok0; go_at_call 80; refine HC0.out.mono ?_; rintro e w' ⟨rfl, rfl⟩; clear tok0; have tok1 : True := trivial)
                                | (have _t := tok1; go_at_call 81; refine HC1.out.mono ?_; rintro e wd ⟨⟨dg, rfl, hdg⟩, hbd⟩; clear tok1; have tok2 : True := trivial; have hXd := (hbd.block _ (Array.getElem?_eq_some_iff.1 HX0.out).1).trans HX0.out)
                                | (have _t := tok2; go_at_call 76; refine (HSay.out wd ((Below.refl _ wl).drew.trans hbd) dg hdg).mono ?_; rintro e wz ⟨rfl, hz1, hz2, hz3⟩; have hXz := sayKeep2 hz3 hXd hbX))
                            all_goals
                              have hbz : Below w1.heap.size w1 wz := ((HBw.out.trans (((Below.refl _ wl).drew.trans hbd).mono HBw.out.size)).alloc (Nat.le_trans HBw.out.size hbd.size) _).trans hz2
                              have HZ1 := Lib.hid hz1; clear hz1
                              go_wp2_with fail
                              go_roundg r
                              case measure => have := HRR.out; omega
                              case rel => exact ⟨i + 1, by omega, by have := HRR.out; omega, by go_num, HZ1.out.mono (by omega), hbz⟩
                          · obtain rfl : i = P.nr := by omega
                            have hsb2 : SbAt w1.heap.size w1.heap.size 1020000595 wr := hsb.mono (by omega)
                            have HSb := Lib.hid hsb2; clear hsb hsb2
                            have HBr := Lib.hid hb; clear hb
                            have c0' := ((HE1.out.below HBr.out).box).tail.tail.tail.tail.tail.tail.head
                            simp only [Nat.zero_add] at c0'
                            go_wp2_with fail
                            clear c0' hsm1 hi
                            have hsm1 := HSm.out.nc
                            go_loopg [156] P.nc (fun r s156 wr => ∃ i : Nat, i ≤ P.nc ∧ r = P.nc - i ∧ s156 = .int .i64 i ∧ SbAt w1.heap.size w1.heap.size (1020000595 + 12000007 * i) wr ∧ Below w1.heap.size w1 wr)
                            case atStart => exact ⟨0, by omega, rfl, rfl, HSb.out, HBr.out⟩
                            case round =>
                              obtain ⟨i, hi, rfl, rfl, hsb, hb⟩ := hrel
                              by_cases hlt : i < P.nc
                              · obtain ⟨a, off, rfl, hcs⟩ := ((HE1.out.below hb).pol.h6.sl).resolve_left (by omega)
                                obtain ⟨r, hrr⟩ : ∃ r, P.nc - i = r + 1 := ⟨P.nc - i - 1, by omega⟩
                                have HRR := Lib.hid hrr; clear hrr
                                have hlt2 : (i : Int) < P.nc := by omega
                                have d0 : wr.cell? ⟨a, off + i * 2, none⟩ = some (.int .i64 (P.cal i).1) := by have := hcs i hlt 0 (by omega); simpa [prC] using this
                                have d1 : wr.cell? ⟨a, off + i * 2 + 1, none⟩ = some (.int .i64 (P.cal i).2) := by have := hcs i hlt 1 (by omega); simpa [prC] using this
                                clear hcs
                                obtain ⟨wl, hwl⟩ : ∃ wl : World, wl = wr.alloc (.cells #[.int .i64 (P.cal i).1, .int .i64 (P.cal i).2] 60) := ⟨_, rfl⟩
                                have hbl : Below wr.heap.size wr wl := by rw [hwl]; (repeat first | exact Below.refl _ _ | assumption | refine Below.alloc ?_ (by simp; try omega) _ | refine Below.drew ?_ | refine Below.drewN ?_ _ | refine Below.setCell ?_ (by simp; try omega) _ | refine Below.trans ?_ (Below.mono (by assumption) (by simp; try omega)))
                                have hX : wl.heap[wr.heap.size]? = some (.cells #[.int .i64 (P.cal i).1, .int .i64 (P.cal i).2] 60) := by rw [hwl]; exact heap_new wr _
                                have hbw := hb.trans (hbl.mono hb.size)
                                have x0 := cell_of (o := 0) hX
                                have x1 := cell_of (o := 1) hX
                                have hE := HE1.out.below hbw.drew
                                have hX0 : wl.drew.heap[wr.heap.size]? = some (.cells #[.int .i64 (P.cal i).1, .int .i64 (P.cal i).2] 60) := hX
                                have p4 := hE.box.tail.tail.tail.tail.head
                                simp only [Nat.zero_add] at p4
                                have HC0 := Lib.hid (print_work p4 hE.pol.h4.sl ((P.cal i).1) ((HGd.out.cal i hlt).1) (Nat.le_trans HSm.out.nw (by omega)))
                                have HC1 := Lib.hid (print_work p4 hE.pol.h4.sl ((P.cal i).2) ((HGd.out.cal i hlt).2) (Nat.le_trans HSm.out.nw (by omega)))
                                have hbX : wr.heap.size ≠ w1.heap.size := by
                                  have h1 : w1.heap.size < wr.heap.size := hsb.lt
                                  omega
                                have HSay := Lib.hid (show ∀ wv : World, Below wl.heap.size wl wv → ∀ dg : ByteArray, dg.size ≤ 2000000 → _ from fun wv hwv dg hdg => print_say (w := wv.alloc (.cells #[.string ⟨#[99, 97, 108, 108]⟩, .string (P.wrk ((P.cal i).1).toNat).1, .string (P.wrk ((P.cal i).2).toNat).1] 9)) (hsb.belowW ((hbl.trans (hwv.mono hbl.size)).alloc (Nat.le_trans hbl.size hwv.size) _)) (Nat.le_trans hbw.size (Nat.le_trans hwv.size (by simp))) wv.heap.size 3 [⟨#[99, 97, 108, 108]⟩, (P.wrk ((P.cal i).1).toNat).1, (P.wrk ((P.cal i).2).toNat).1] (by
                                  have hg := heap_new wv (.cells #[.string ⟨#[99, 97, 108, 108]⟩, .string (P.wrk ((P.cal i).1).toNat).1, .string (P.wrk ((P.cal i).2).toNat).1] 9)
                                  intro j z hz
                                  rw [cell_of hg]
                                  rcases j with _ | _ | _ | j
                                  · simp at hz; subst hz; rfl
                                  · simp at hz; subst hz; rfl
                                  · simp at hz; subst hz; rfl
                                  · simp at hz) (by simp) (by simp) (by simp) (by
                                  intro z hz
                                  simp only [List.mem_cons, List.not_mem_nil, or_false] at hz
                                  rcases hz with rfl | rfl | rfl
                                  · decide
                                  · exact Nat.le_trans (HZ.out.wrk _ (by have := of_decide_eq_true ((HGd.out.cal i hlt).1); omega)) (by omega)
                                  · exact Nat.le_trans (HZ.out.wrk _ (by have := of_decide_eq_true ((HGd.out.cal i hlt).2); omega)) (by omega)) (by omega))
                                have HWl := Lib.hid hwl
                                have HBw := Lib.hid hbw
                                have HX := Lib.hid hX
                                clear hwl hbl hbw hX hsb hE p4
                                have HX0 := Lib.hid hX0; clear hX0
                                go_wp2_with fail
                                rw [← HWl.out]
                                have tok0 : True := trivial
                                go_region_held3 (fun w' => w'.heap[wr.heap.size]? = some (.cells #[.int .i64 (P.cal i).1, .int .i64 (P.cal i).2] 60) ∧ w'.cell? ⟨wr.heap.size, 0, none⟩ = some (.int .i64 (P.cal i).1) ∧ w'.cell? ⟨wr.heap.size, 1, none⟩ = some (.int .i64 (P.cal i).2))
                                  (first | exact ⟨hXz, cell_of (o := 0) hXz, cell_of (o := 1) hXz⟩ | exact ⟨HX.out, x0, x1⟩ | (go_split_ands; exact ⟨heap_alloc_keep (by assumption), (cell_alloc_lt (cell_lt (by assumption))).trans (by assumption), (cell_alloc_lt (cell_lt (by assumption))).trans (by assumption)⟩))
                                  (first
                                    | (have _t := tok0; go_at_call 80; refine HC0.out.mono ?_; rintro e w' ⟨rfl, rfl⟩; clear tok0; have tok1 : True := trivial)
                                    | (have _t := tok1; go_at_call 80; refine HC1.out.mono ?_; rintro e w' ⟨rfl, rfl⟩; clear tok1; have tok2 : True := trivial)
                                    | (have _t := tok2; go_at_call 76; refine (HSay.out wl.drew (Below.refl _ wl).drew ⟨#[]⟩ (by decide)).mono ?_; rintro e wz ⟨rfl, hz1, hz2, hz3⟩; have hXz := sayKeep2 hz3 HX0.out hbX))
                                all_goals
                                  have hbz : Below w1.heap.size w1 wz := (HBw.out.drew.alloc HBw.out.size _).trans hz2
                                  have HZ1 := Lib.hid hz1; clear hz1
                                  go_wp2_with fail
                                  go_roundg r
                                  case measure => have := HRR.out; omega
                                  case rel => exact ⟨i + 1, by omega, by have := HRR.out; omega, by go_num, HZ1.out.mono (by omega), hbz⟩
                              · obtain rfl : i = P.nc := by omega
                                have hsb2 : SbAt w1.heap.size w1.heap.size 1200000700 wr := hsb.mono (by omega)
                                have HSb := Lib.hid hsb2; clear hsb hsb2
                                have HBr := Lib.hid hb; clear hb
                                have c0' := ((HE1.out.below HBr.out).box).tail.tail.tail.tail.tail.tail.tail.head
                                simp only [Nat.zero_add] at c0'
                                go_wp2_with fail
                                clear c0' hsm1 hi
                                have hsm1 := HSm.out.ng
                                go_loopg [175] P.ng (fun r s175 wr => ∃ i : Nat, i ≤ P.ng ∧ r = P.ng - i ∧ s175 = .int .i64 i ∧ SbAt w1.heap.size w1.heap.size (1200000700 + 12000007 * i) wr ∧ Below w1.heap.size w1 wr)
                                case atStart => exact ⟨0, by omega, rfl, rfl, HSb.out, HBr.out⟩
                                case round =>
                                  obtain ⟨i, hi, rfl, rfl, hsb, hb⟩ := hrel
                                  by_cases hlt : i < P.ng
                                  · obtain ⟨a, off, rfl, hcs⟩ := ((HE1.out.below hb).pol.h7.sl).resolve_left (by omega)
                                    obtain ⟨r, hrr⟩ : ∃ r, P.ng - i = r + 1 := ⟨P.ng - i - 1, by omega⟩
                                    have HRR := Lib.hid hrr; clear hrr
                                    have hlt2 : (i : Int) < P.ng := by omega
                                    have d0 : wr.cell? ⟨a, off + i * 5, none⟩ = some (.string (P.grt i).1) := by have := hcs i hlt 0 (by omega); simpa [grC] using this
                                    have d1 : wr.cell? ⟨a, off + i * 5 + 1, none⟩ = some (.int .i64 (P.grt i).2.1) := by have := hcs i hlt 1 (by omega); simpa [grC] using this
                                    have d2 : wr.cell? ⟨a, off + i * 5 + 2, none⟩ = some (.int .i64 (P.grt i).2.2.1) := by have := hcs i hlt 2 (by omega); simpa [grC] using this
                                    have d3 : wr.cell? ⟨a, off + i * 5 + 3, none⟩ = some (.int .i64 (P.grt i).2.2.2.1) := by have := hcs i hlt 3 (by omega); simpa [grC] using this
                                    have d4 : wr.cell? ⟨a, off + i * 5 + 4, none⟩ = some (.string (P.grt i).2.2.2.2) := by have := hcs i hlt 4 (by omega); simpa [grC] using this
                                    clear hcs
                                    obtain ⟨wl, hwl⟩ : ∃ wl : World, wl = wr.alloc (.cells #[.string (P.grt i).1, .int .i64 (P.grt i).2.1, .int .i64 (P.grt i).2.2.1, .int .i64 (P.grt i).2.2.2.1, .string (P.grt i).2.2.2.2] 53) := ⟨_, rfl⟩
                                    have hbl : Below wr.heap.size wr wl := by rw [hwl]; (repeat first | exact Below.refl _ _ | assumption | refine Below.alloc ?_ (by simp; try omega) _ | refine Below.drew ?_ | refine Below.drewN ?_ _ | refine Below.setCell ?_ (by simp; try omega) _ | refine Below.trans ?_ (Below.mono (by assumption) (by simp; try omega)))
                                    have hX : wl.heap[wr.heap.size]? = some (.cells #[.string (P.grt i).1, .int .i64 (P.grt i).2.1, .int .i64 (P.grt i).2.2.1, .int .i64 (P.grt i).2.2.2.1, .string (P.grt i).2.2.2.2] 53) := by rw [hwl]; exact heap_new wr _
                                    have hbw := hb.trans (hbl.mono hb.size)
                                    have x0 := cell_of (o := 0) hX
                                    have x1 := cell_of (o := 1) hX
                                    have x2 := cell_of (o := 2) hX
                                    have x3 := cell_of (o := 3) hX
                                    have x4 := cell_of (o := 4) hX
                                    have hE := HE1.out.below hbw.drew
                                    have hX0 : wl.drew.heap[wr.heap.size]? = some (.cells #[.string (P.grt i).1, .int .i64 (P.grt i).2.1, .int .i64 (P.grt i).2.2.1, .int .i64 (P.grt i).2.2.2.1, .string (P.grt i).2.2.2.2] 53) := hX
                                    have p0 := hE.box.head
                                    simp only [Nat.zero_add] at p0
                                    have p4 := hE.box.tail.tail.tail.tail.head
                                    simp only [Nat.zero_add] at p4
                                    have HC0 := Lib.hid (print_work p4 hE.pol.h4.sl ((P.grt i).2.1) ((HGd.out.grt i hlt).2.2.1) (Nat.le_trans HSm.out.nw (by omega)))
                                    have HC1 := Lib.hid (print_label p0 hE.pol.h0.sl ((P.grt i).2.2.1) ((HGd.out.grt i hlt).2.2.2.1) (Nat.le_trans HSm.out.nl (by omega)))
                                    have HC2 := Lib.hid (print_label p0 hE.pol.h0.sl ((P.grt i).2.2.2.1) ((HGd.out.grt i hlt).2.2.2.2.1) (Nat.le_trans HSm.out.nl (by omega)))
                                    have hbX : wr.heap.size ≠ w1.heap.size := by
                                      have h1 : w1.heap.size < wr.heap.size := hsb.lt
                                      omega
                                    have HSay := Lib.hid (show ∀ wv : World, Below wl.heap.size wl wv → ∀ dg : ByteArray, dg.size ≤ 2000000 → _ from fun wv hwv dg hdg => print_say (w := wv.alloc (.cells #[.string ⟨#[103, 114, 97, 110, 116]⟩, .string (P.grt i).1, .string (P.wrk ((P.grt i).2.1).toNat).1, .string (P.lab ((P.grt i).2.2.1).toNat), .string (P.lab ((P.grt i).2.2.2.1).toNat), .string (P.grt i).2.2.2.2] 9)) (hsb.belowW ((hbl.trans (hwv.mono hbl.size)).alloc (Nat.le_trans hbl.size hwv.size) _)) (Nat.le_trans hbw.size (Nat.le_trans hwv.size (by simp))) wv.heap.size 6 [⟨#[103, 114, 97, 110, 116]⟩, (P.grt i).1, (P.wrk ((P.grt i).2.1).toNat).1, (P.lab ((P.grt i).2.2.1).toNat), (P.lab ((P.grt i).2.2.2.1).toNat), (P.grt i).2.2.2.2] (by
                                      have hg := heap_new wv (.cells #[.string ⟨#[103, 114, 97, 110, 116]⟩, .string (P.grt i).1, .string (P.wrk ((P.grt i).2.1).toNat).1, .string (P.lab ((P.grt i).2.2.1).toNat), .string (P.lab ((P.grt i).2.2.2.1).toNat), .string (P.grt i).2.2.2.2] 9)
                                      intro j z hz
                                      rw [cell_of hg]
                                      rcases j with _ | _ | _ | _ | _ | _ | j
                                      · simp at hz; subst hz; rfl
                                      · simp at hz; subst hz; rfl
                                      · simp at hz; subst hz; rfl
                                      · simp at hz; subst hz; rfl
                                      · simp at hz; subst hz; rfl
                                      · simp at hz; subst hz; rfl
                                      · simp at hz) (by simp) (by simp) (by simp) (by
                                      intro z hz
                                      simp only [List.mem_cons, List.not_mem_nil, or_false] at hz
                                      rcases hz with rfl | rfl | rfl | rfl | rfl | rfl
                                      · decide
                                      · exact Nat.le_trans ((HZ.out.grt i hlt).1) (by omega)
                                      · exact Nat.le_trans (HZ.out.wrk _ (by have := of_decide_eq_true ((HGd.out.grt i hlt).2.2.1); omega)) (by omega)
                                      · exact Nat.le_trans (HZ.out.lab _ (by have := of_decide_eq_true ((HGd.out.grt i hlt).2.2.2.1); omega)) (by omega)
                                      · exact Nat.le_trans (HZ.out.lab _ (by have := of_decide_eq_true ((HGd.out.grt i hlt).2.2.2.2.1); omega)) (by omega)
                                      · exact Nat.le_trans ((HZ.out.grt i hlt).2) (by omega)) (by omega))
                                    have HWl := Lib.hid hwl
                                    have HBw := Lib.hid hbw
                                    have HX := Lib.hid hX
                                    clear hwl hbl hbw hX hsb hE p0 p4
                                    have HX0 := Lib.hid hX0; clear hX0
                                    go_wp2_with fail
                                    rw [← HWl.out]
                                    have tok0 : True := trivial
                                    go_region_held3 (fun w' => w'.heap[wr.heap.size]? = some (.cells #[.string (P.grt i).1, .int .i64 (P.grt i).2.1, .int .i64 (P.grt i).2.2.1, .int .i64 (P.grt i).2.2.2.1, .string (P.grt i).2.2.2.2] 53) ∧ w'.cell? ⟨wr.heap.size, 0, none⟩ = some (.string (P.grt i).1) ∧ w'.cell? ⟨wr.heap.size, 1, none⟩ = some (.int .i64 (P.grt i).2.1) ∧ w'.cell? ⟨wr.heap.size, 2, none⟩ = some (.int .i64 (P.grt i).2.2.1) ∧ w'.cell? ⟨wr.heap.size, 3, none⟩ = some (.int .i64 (P.grt i).2.2.2.1) ∧ w'.cell? ⟨wr.heap.size, 4, none⟩ = some (.string (P.grt i).2.2.2.2))
                                      (first | exact ⟨hXz, cell_of (o := 0) hXz, cell_of (o := 1) hXz, cell_of (o := 2) hXz, cell_of (o := 3) hXz, cell_of (o := 4) hXz⟩ | exact ⟨HX.out, x0, x1, x2, x3, x4⟩ | (go_split_ands; exact ⟨heap_alloc_keep (by assumption), (cell_alloc_lt (cell_lt (by assumption))).trans (by assumption), (cell_alloc_lt (cell_lt (by assumption))).trans (by assumption), (cell_alloc_lt (cell_lt (by assumption))).trans (by assumption), (cell_alloc_lt (cell_lt (by assumption))).trans (by assumption), (cell_alloc_lt (cell_lt (by assumption))).trans (by assumption)⟩))
                                      (first
                                        | (have _t := tok0; go_at_call 80; refine HC0.out.mono ?_; rintro e w' ⟨rfl, rfl⟩; clear tok0; have tok1 : True := trivial)
                                        | (have _t := tok1; go_at_call 79; refine HC1.out.mono ?_; rintro e w' ⟨rfl, rfl⟩; clear tok1; have tok2 : True := trivial)
                                        | (have _t := tok2; go_at_call 79; refine HC2.out.mono ?_; rintro e w' ⟨rfl, rfl⟩; clear tok2; have tok3 : True := trivial)
                                        | (have _t := tok3; go_at_call 76; refine (HSay.out wl.drew (Below.refl _ wl).drew ⟨#[]⟩ (by decide)).mono ?_; rintro e wz ⟨rfl, hz1, hz2, hz3⟩; have hXz := sayKeep2 hz3 HX0.out hbX))
                                    all_goals
                                      have hbz : Below w1.heap.size w1 wz := (HBw.out.drew.alloc HBw.out.size _).trans hz2
                                      have HZ1 := Lib.hid hz1; clear hz1
                                      go_wp2_with fail
                                      go_roundg r
                                      case measure => have := HRR.out; omega
                                      case rel => exact ⟨i + 1, by omega, by have := HRR.out; omega, by go_num, HZ1.out.mono (by omega), hbz⟩
                                  · obtain rfl : i = P.ng := by omega
                                    have hsb2 : SbAt w1.heap.size w1.heap.size 1272000742 wr := hsb.mono (by omega)
                                    have HSb := Lib.hid hsb2; clear hsb hsb2
                                    have HBr := Lib.hid hb; clear hb
                                    have c0' := ((HE1.out.below HBr.out).box).tail.tail.tail.tail.tail.tail.tail.tail.head
                                    simp only [Nat.zero_add] at c0'
                                    go_wp2_with fail
                                    clear c0' hsm1 hi
                                    have hsm1 := HSm.out.na
                                    go_loopg [202] P.na (fun r s202 wr => ∃ i : Nat, i ≤ P.na ∧ r = P.na - i ∧ s202 = .int .i64 i ∧ SbAt w1.heap.size w1.heap.size (1272000742 + 12000007 * i) wr ∧ Below w1.heap.size w1 wr)
                                    case atStart => exact ⟨0, by omega, rfl, rfl, HSb.out, HBr.out⟩
                                    case round =>
                                      obtain ⟨i, hi, rfl, rfl, hsb, hb⟩ := hrel
                                      by_cases hlt : i < P.na
                                      · obtain ⟨a, off, rfl, hcs⟩ := ((HE1.out.below hb).pol.h8.sl).resolve_left (by omega)
                                        obtain ⟨r, hrr⟩ : ∃ r, P.na - i = r + 1 := ⟨P.na - i - 1, by omega⟩
                                        have HRR := Lib.hid hrr; clear hrr
                                        have hlt2 : (i : Int) < P.na := by omega
                                        have d0 := hcs i hlt 0 (by omega)
                                        simp only [Nat.mul_one, Nat.add_zero, strC] at d0
                                        clear hcs
                                        obtain ⟨wl, hwl⟩ : ∃ wl : World, wl = wr.alloc (.cells #[.string ⟨#[97, 108, 108, 111, 119]⟩, .string (P.alw i)] 9) := ⟨_, rfl⟩
                                        have hbl : Below wr.heap.size wr wl := by rw [hwl]; (repeat first | exact Below.refl _ _ | assumption | refine Below.alloc ?_ (by simp; try omega) _ | refine Below.drew ?_ | refine Below.drewN ?_ _ | refine Below.setCell ?_ (by simp; try omega) _ | refine Below.trans ?_ (Below.mono (by assumption) (by simp; try omega)))
                                        have hsay := print_say (hsb.belowW hbl) (Nat.le_trans hb.size hbl.size) wr.heap.size 2 [⟨#[97, 108, 108, 111, 119]⟩, P.alw i] (by
                                          have hg : wl.heap[wr.heap.size]? = some (.cells #[.string ⟨#[97, 108, 108, 111, 119]⟩, .string (P.alw i)] 9) := by rw [hwl]; exact heap_new wr _
                                          intro j x hx
                                          rw [cell_of hg]
                                          rcases j with _ | _ | j
                                          · simp at hx; subst hx; rfl
                                          · simp at hx; subst hx; rfl
                                          · simp at hx) (by rw [hwl]; simp) (by simp) (by simp) (by
                                          intro x hx
                                          simp at hx
                                          rcases hx with rfl | rfl
                                          · decide
                                          · exact Nat.le_trans (HZ.out.alw i hlt) (by omega)) (by omega)
                                        have HSay := Lib.hid hsay; clear hsay
                                        have HWl := Lib.hid hwl
                                        have HBl := Lib.hid hbl
                                        clear hwl hbl hsb
                                        go_wp2_with fail
                                        rw [← HWl.out]
                                        refine HSay.out.mono ?_
                                        rintro e wz ⟨rfl, hz1, hz2, -⟩
                                        have hbz := (hb.trans (HBl.out.mono hb.size)).trans hz2
                                        have HZ1 := Lib.hid hz1; clear hz1
                                        go_wp2_with fail
                                        go_roundg r
                                        case measure => have := HRR.out; omega
                                        case rel => exact ⟨i + 1, by omega, by have := HRR.out; omega, by go_num, HZ1.out.mono (by omega), hbz⟩
                                      · obtain rfl : i = P.na := by omega
                                        obtain ⟨bs, hbs, -⟩ := hsb
                                        have hST := Tryz.Builder_String_any w1.heap.size w1.heap.size bs wr hbs hb.size
                                        have HST := Lib.hid hST; clear hST hbs
                                        go_wp2_with fail
                                        refine HST.out.mono ?_
                                        rintro e wz ⟨rfl, hbz⟩
                                        have hbf := HB1.out.trans ((hb.trans hbz).mono HB1.out.size)
                                        go_wp2_with fail
                                        go_ret2
                                        exact ⟨.inr ⟨HC.out, _, rfl⟩, hbf⟩
  · have HC := Lib.hid hc
    have hc2 : (P.code == 0) = false := by simpa using hc
    clear hc
    go_enter Tryz.func23, Tryz.ntmps23
    go_wp2_with fail
    rw [← HW.out]
    refine hck.mono ?_
    rintro e w1 ⟨rfl, hb1⟩
    have hb2 := hb0.trans (hb1.mono hb0.size)
    go_wp2_with fail
    go_ret2
    exact ⟨.inl ⟨HC.out, rfl⟩, hb2⟩
end Go.Proofs.YteblahoijolegaaGreatDoor
end
