import Derived.Test.YteblahoijolegaaGreatDoorM14
import Derived.Test.YteblahoijolegaaGreatDoorM15
import Derived.Test.YteblahoijolegaaGreatDoorM16
import Derived.Test.YteblahoijolegaaGreatDoorM19
import Derived.BigQuiet
import Derived.BigRegion
import Derived.ChangeAlike
import Derived.Deep.DeepCutAuto
import Derived.Deep.Light
import Derived.Deep.LoopGhost
import Derived.Deep.MidRow
import Derived.Deep.QuietTactic
import Derived.Deep.RegionHeld3
import Derived.Deep.WholeRow
import Derived.Defers
import Derived.Great.Walk
import Derived.Laws.BitsAllLaws
import Derived.Laws.CopyOwn
import Derived.Laws.EntriesVeiled
import Derived.Laws.LoneSync
import Derived.Laws.Pointers
import Derived.Laws.StructEq
import Derived.Lib.Hide
import Derived.Lib.LazyBuf
import Derived.Lib.SliceRun
import Derived.LoopIn
import Derived.LoopNIn
import Derived.Maps.AppendAt
import Derived.OwnWalkIn
import Derived.RangeFuncBox
import Derived.RangeFuncKeeps
import Derived.RangeFuncLeaves
import Derived.RangeFuncSeq
import Derived.RegionCalls
import Derived.RegionIn
import Derived.RegionTactic
import Derived.Shelf.Abstract
import Derived.TacticsInMore
import Derived.Test.YteblahoijolegaaGreatDoorShelf
import Derived.WalkKit
import Derived.WalkLawsBesides
import Derived.WalkSpells
import Derived.WideLaws
import Derived.Lib.ItoaLen
import Derived.Test.YteblahoijolegaaGreatDoorM13
section
set_option linter.all false
namespace Go.Proofs.YteblahoijolegaaGreatDoor
open Go.RowKit

/-- a policy's values -/
structure Pol where
  nl : Nat
  nb : Nat
  ns : Nat
  nd : Nat
  nw : Nat
  nr : Nat
  nc : Nat
  ng : Nat
  na : Nat
  lab : Nat → ByteArray
  bel : Nat → Int × Int
  src : Nat → ByteArray × Int × Int
  dst : Nat → ByteArray × Int
  wrk : Nat → ByteArray × Int × Int
  rte : Nat → ByteArray × ByteArray × Int × Int
  cal : Nat → Int × Int
  grt : Nat → ByteArray × Int × Int × Int × ByteArray
  alw : Nat → ByteArray
def strC (f : Nat → ByteArray) : Nat → Nat → Value := fun i _ => .string (f i)
def prC (f : Nat → Int × Int) : Nat → Nat → Value := fun i j => .int .i64 (if j = 0 then (f i).1 else (f i).2)
def siiC (f : Nat → ByteArray × Int × Int) : Nat → Nat → Value := fun i j => if j = 0 then .string (f i).1 else if j = 1 then .int .i64 (f i).2.1 else .int .i64 (f i).2.2
def siC (f : Nat → ByteArray × Int) : Nat → Nat → Value := fun i j => if j = 0 then .string (f i).1 else .int .i64 (f i).2
def rtC (f : Nat → ByteArray × ByteArray × Int × Int) : Nat → Nat → Value := fun i j => if j = 0 then .string (f i).1 else if j = 1 then .string (f i).2.1 else if j = 2 then .int .i64 (f i).2.2.1 else .int .i64 (f i).2.2.2
def grC (f : Nat → ByteArray × Int × Int × Int × ByteArray) : Nat → Nat → Value := fun i j => if j = 0 then .string (f i).1 else if j = 1 then .int .i64 (f i).2.1 else if j = 2 then .int .i64 (f i).2.2.1 else if j = 3 then .int .i64 (f i).2.2.2.1 else .string (f i).2.2.2.2
theorem strC_one (f) (i j : Nat) : (strC f i j).oneCell' = true := rfl
theorem prC_one (f) (i j : Nat) : (prC f i j).oneCell' = true := rfl
theorem siiC_one (f) (i j : Nat) : (siiC f i j).oneCell' = true := by
  unfold siiC
  repeat' split
  all_goals rfl
theorem siC_one (f) (i j : Nat) : (siC f i j).oneCell' = true := by unfold siC; split <;> rfl
theorem rtC_one (f) (i j : Nat) : (rtC f i j).oneCell' = true := by
  unfold rtC
  repeat' split
  all_goals rfl
theorem grC_one (f) (i j : Nat) : (grC f i j).oneCell' = true := by
  unfold grC
  repeat' split
  all_goals rfl

/-- a slice as it comes -/
structure SlOk (w : World) (ao : Option Addr) (n cp K : Nat) (c : Nat → Nat → Value) : Prop where
  nil : ao = Option.none → n = 0 ∧ cp = 0
  spot : ∀ a, ao = some a → a.spot = Option.none
  cap : n ≤ cp
  sl : SlAt w ao n K c
theorem SlOk.below {w w' : World} {ao : Option Addr} {n cp K : Nat} {c : Nat → Nat → Value} (h : SlOk w ao n cp K c) (hb : Below w.heap.size w w') : SlOk w' ao n cp K c := ⟨h.nil, h.spot, h.cap, h.sl.below hb⟩
/-- where a slice of one or more elements lies -/
theorem SlOk.at {w : World} {ao : Option Addr} {n cp K : Nat} {c : Nat → Nat → Value} (h : SlOk w ao n cp K c) (hn : 0 < n) : ∃ a off, ao = some ⟨a, off, none⟩ := by
  rcases h.sl with h | ⟨a, off, h, _⟩
  · omega
  · exact ⟨a, off, h⟩
structure PolPtr where
  a0 : Option Addr
  a1 : Option Addr
  a2 : Option Addr
  a3 : Option Addr
  a4 : Option Addr
  a5 : Option Addr
  a6 : Option Addr
  a7 : Option Addr
  a8 : Option Addr
  c0 : Nat
  c1 : Nat
  c2 : Nat
  c3 : Nat
  c4 : Nat
  c5 : Nat
  c6 : Nat
  c7 : Nat
  c8 : Nat
structure PolAt (w : World) (q : PolPtr) (P : Pol) : Prop where
  h0 : SlOk w q.a0 P.nl q.c0 1 (strC P.lab)
  h1 : SlOk w q.a1 P.nb q.c1 2 (prC P.bel)
  h2 : SlOk w q.a2 P.ns q.c2 3 (siiC P.src)
  h3 : SlOk w q.a3 P.nd q.c3 2 (siC P.dst)
  h4 : SlOk w q.a4 P.nw q.c4 3 (siiC P.wrk)
  h5 : SlOk w q.a5 P.nr q.c5 4 (rtC P.rte)
  h6 : SlOk w q.a6 P.nc q.c6 2 (prC P.cal)
  h7 : SlOk w q.a7 P.ng q.c7 5 (grC P.grt)
  h8 : SlOk w q.a8 P.na q.c8 1 (strC P.alw)
theorem PolAt.below {w w' : World} {q : PolPtr} {P : Pol} (h : PolAt w q P) (hb : Below w.heap.size w w') : PolAt w' q P :=
  ⟨h.h0.below hb, h.h1.below hb, h.h2.below hb, h.h3.below hb, h.h4.below hb, h.h5.below hb, h.h6.below hb, h.h7.below hb, h.h8.below hb⟩
/-- the nine parts, as values -/
def polCells (q : PolPtr) (P : Pol) : Array Value := #[.slice q.a0 P.nl q.c0, .slice q.a1 P.nb q.c1, .slice q.a2 P.ns q.c2, .slice q.a3 P.nd q.c3, .slice q.a4 P.nw q.c4, .slice q.a5 P.nr q.c5, .slice q.a6 P.nc q.c6, .slice q.a7 P.ng q.c7, .slice q.a8 P.na q.c8]
def PolBox (w : World) (b o : Nat) (q : PolPtr) (P : Pol) : Prop := Cells w [(b, o + 0, .slice q.a0 P.nl q.c0), (b, o + 1, .slice q.a1 P.nb q.c1), (b, o + 2, .slice q.a2 P.ns q.c2), (b, o + 3, .slice q.a3 P.nd q.c3), (b, o + 4, .slice q.a4 P.nw q.c4), (b, o + 5, .slice q.a5 P.nr q.c5), (b, o + 6, .slice q.a6 P.nc q.c6), (b, o + 7, .slice q.a7 P.ng q.c7), (b, o + 8, .slice q.a8 P.na q.c8)]
theorem cells_of_heap {w : World} {b : Nat} {c : Array Value} {t : TypeId} {fz : Nat × Nat} (h : w.heap[b]? = some (.cells c t fz)) (l : List (Nat × Nat × Value)) (hl : ∀ x ∈ l, x.1 = b ∧ c[x.2.1]? = some x.2.2) : Cells w l := by
  intro x hx
  obtain ⟨h1, h2⟩ := hl x hx
  rw [h1, cell_of h, h2]
theorem polBox_of {w : World} {b : Nat} {q : PolPtr} {P : Pol} {t : TypeId} {fz : Nat × Nat} (h : w.heap[b]? = some (.cells (polCells q P) t fz)) : PolBox w b 0 q P := by
  refine cells_of_heap h _ ?_
  simp [polCells]
/-- no text is too long for a machine -/
structure Pol.Sized (P : Pol) : Prop where
  lab : ∀ i, i < P.nl → (P.lab i).size ≤ 1048576
  src : ∀ i, i < P.ns → (P.src i).1.size ≤ 1048576
  dst : ∀ i, i < P.nd → (P.dst i).1.size ≤ 1048576
  wrk : ∀ i, i < P.nw → (P.wrk i).1.size ≤ 1048576
  rte : ∀ i, i < P.nr → (P.rte i).1.size ≤ 1048576 ∧ (P.rte i).2.1.size ≤ 1048576
  grt : ∀ i, i < P.ng → (P.grt i).1.size ≤ 1048576 ∧ (P.grt i).2.2.2.2.size ≤ 1048576
  alw : ∀ i, i < P.na → (P.alw i).size ≤ 1048576
def Pol.lim (P : Pol) : Bool := limB P.nl P.nb P.ns P.nd P.nw P.nr P.nc P.ng P.na
structure Pol.Small (P : Pol) : Prop where
  nl : P.nl ≤ 10
  nb : P.nb ≤ 45
  ns : P.ns ≤ 6
  nd : P.nd ≤ 6
  nw : P.nw ≤ 6
  nr : P.nr ≤ 12
  nc : P.nc ≤ 15
  ng : P.ng ≤ 6
  na : P.na ≤ 6
theorem Pol.small {P : Pol} (h : P.lim = true) : P.Small := by
  have := of_decide_eq_true h
  obtain ⟨h0, h1, h2, h3, h4, h5, h6, h7, h8⟩ := this
  exact ⟨h0, h1, h2, h3, h4, h5, h6, h7, h8⟩
def natP (p : Int × Int) : Nat × Nat := (p.1.toNat, p.2.toNat)
def calE (nw : Nat) (f : Nat → Int × Int) (i : Nat) : Int :=
  if !labB nw (f i).1 || !labB nw (f i).2 then 9 else if anyx (fun k => (f i).1 == (f k).1 && (f i).2 == (f k).2) i then 80 else
  if (comesF (fun k => natP (f k)) i (natP (f i)).1 7 (natP (f i)).2 fun _ => 0).1 then 20 else 0
def Pol.upO (P : Pol) : Option (List Nat × List Nat) := addAll ((List.range P.nb).map fun i => natP (P.bel i)) ((List.range P.nl).map fun a => 2 ^ a) ((List.range P.nl).map fun a => 2 ^ a)
def Pol.up (P : Pol) : List Nat := match P.upO with | some x => x.1 | none => []
def Pol.mk1 (P : Pol) : Int := mkCode P.lab P.nl P.bel P.nb
def Pol.e0 (P : Pol) : Int := allE (fun i => srcE P.nl (anyx (fun k => sameS (P.src k).1 (P.src i).1) i) (P.src i).1 (P.src i).2.1 (P.src i).2.2) P.ns
def Pol.e1 (P : Pol) : Int := allE (fun i => dstE P.nl (anyx (fun k => sameS (P.dst k).1 (P.dst i).1) i) (P.dst i).1 (P.dst i).2) P.nd
def Pol.e2 (P : Pol) : Int := allE (fun i => wrkE P.nl (anyx (fun k => sameS (P.wrk k).1 (P.wrk i).1) i) (P.wrk i).1 (P.wrk i).2.1 (P.wrk i).2.2) P.nw
def rtKey (x : ByteArray × ByteArray × Int × Int) : ByteArray × ByteArray × Int := (x.1, x.2.1, x.2.2.1)
def Pol.e3 (P : Pol) : Int := allE (fun i => rteE P.nw (anyx (fun k => sameS (P.dst k).1 (P.rte i).1) P.nd) (anyx (fun k => sameR (rtKey (P.rte k)) (rtKey (P.rte i))) i) (P.rte i).1 (P.rte i).2.1 (P.rte i).2.2.1 (P.rte i).2.2.2) P.nr
def Pol.e4 (P : Pol) : Int := allE (calE P.nw P.cal) P.nc
def Pol.e5 (P : Pol) : Int := allE (fun i => grtE P.nl P.nw P.up (anyx (fun k => sameS (P.grt k).1 (P.grt i).1) i) (P.grt i).1 (P.grt i).2.1 (P.grt i).2.2.1 (P.grt i).2.2.2.1 (P.grt i).2.2.2.2) P.ng
def Pol.e6 (P : Pol) : Int := allE (fun i => alwE (anyx (fun k => (P.alw i).toList == (P.alw k).toList) i) (P.alw i)) P.na
def Pol.part (P : Pol) (k : Nat) : Int := if k = 0 then P.e0 else if k = 1 then P.e1 else if k = 2 then P.e2 else if k = 3 then P.e3 else if k = 4 then P.e4 else if k = 5 then P.e5 else P.e6
/-- what Check says -/
def Pol.code (P : Pol) : Int := if P.lim = false then 5 else if P.mk1 ≠ 0 then P.mk1 else allE P.part 7
end Go.Proofs.YteblahoijolegaaGreatDoor
end
section
set_option linter.all false
namespace Go.Proofs.YteblahoijolegaaGreatDoor
open Go.RowKit

theorem sb_size : (Tryz.prog.info? 155).map (·.size) = some 2 := by kernel_rfl
theorem sb_lies : liesAt Tryz.prog Tryz.prog.depth 155 (2 / Tryz.prog.cellsOf 155) 0 155 1 = true := by kernel_rfl
theorem sb_byte : (Tryz.prog.info? 5).map (fun i => (i.zero, i.size, i.bytes)) = some (some (.int .u8 0), 1, 1) := by kernel_rfl
set_option maxHeartbeats 1000000 in
set_option maxRecDepth 100000 in
theorem sb_check_used (b : Nat) (w : World) (h0 : w.cell? ⟨b, 0, none⟩ = some (.pointer (some ⟨b, 0, none⟩))) :
    Calls Tryz.prog 140 #[.pointer (some ⟨b, 0, none⟩)] w fun e w' => e = .returned (.tuple #[]) ∧ w' = w := by
  obtain ⟨j, hj, _⟩ := Option.map_eq_some_iff.1 sb_size
  have hne := fun w => Lib.run_neq_ptr_same (P := Tryz.prog) w ⟨b, 0, none⟩ Tryz.underlying152 hj
  go_enter Tryz.func140, Tryz.ntmps140
  go_wp2
  go_end0
  exact ⟨rfl, rfl⟩
set_option maxHeartbeats 1000000 in
set_option maxRecDepth 100000 in
theorem sb_check_fresh (b : Nat) (w : World) (h0 : w.cell? ⟨b, 0, none⟩ = some (.pointer none)) (hsh : w.shape? b = some (155, 2)) (hfz : w.frozen? ⟨b, 0, none⟩ = false) :
    Calls Tryz.prog 140 #[.pointer (some ⟨b, 0, none⟩)] w fun e w' => e = .returned (.tuple #[]) ∧ w' = w.setCell ⟨b, 0, none⟩ (.pointer (some ⟨b, 0, none⟩)) := by
  obtain ⟨j, hj, hjs⟩ := Option.map_eq_some_iff.1 sb_size
  go_enter Tryz.func140, Tryz.ntmps140
  go_wp2
  rw [Lib.run_to_unsafe w ⟨b, 0, none⟩ Tryz.underlying152 Tryz.underlying260 hj (by rw [hjs]; decide) hsh (Nat.zero_lt_succ 1)]
  simp only [Result.andThen]
  rw [Oper.upon_value]
  go_wp2
  rw [run_callFunc_extern Tryz.func185 (by kernel_rfl) (by kernel_rfl) (by kernel_rfl) (e := Extern.AbiNoEscape.same) (by kernel_rfl)]
  rw [Lib.run_noEscape]
  simp only [Result.andThen]
  rw [Oper.upon_value]
  go_wp2
  rw [Lib.run_from_unsafe w ⟨b, 0, none⟩ Tryz.underlying260 Tryz.underlying152 hj hsh sb_lies]
  simp only [Result.andThen]
  rw [Oper.upon_value]
  go_wp2
  go_end0
  exact ⟨rfl, rfl⟩
/-- all but the builder and rows of bytes is as it was -/
def KeptB (b : Nat) (w w' : World) : Prop := ∀ k, k < w.heap.size → k ≠ b → (∀ cs fz, w.heap[k]? ≠ some (.cells cs 5 fz)) → w'.heap[k]? = w.heap[k]?
theorem KeptB.trans {b : Nat} {w w1 w2 : World} (h : KeptB b w w1) (k : KeptB b w1 w2) (hs : w.heap.size ≤ w1.heap.size) : KeptB b w w2 := fun i hi hb ht => by
  have h1 := h i hi hb ht
  rw [← h1]
  exact k i (by omega) hb (fun cs fz => by rw [h1]; exact ht cs fz)
theorem KeptB.of_below {b : Nat} {w w' : World} (h : Below w.heap.size w w') : KeptB b w w' := fun i hi _ _ => h.block i hi
theorem KeptB.setCell (b o : Nat) (w : World) (v : Value) : KeptB b w (w.setCell ⟨b, o, none⟩ v) := fun i _ hb _ => Below.heap_setCell _ _ _ _ hb
theorem KeptB.refl (b : Nat) (w : World) : KeptB b w w := fun _ _ _ _ => rfl
theorem KeptB.grown {b B k : Nat} {w w' : World} {v : Value} {xs : List Value} (hown : w.ownsRow B 5 1 v k xs) (h : w.grownBy w' v.ownBlock) : KeptB b w w' := fun i hi hb ht => by
  refine h.block i hi (fun he => ?_)
  rcases hown.2 with ⟨rfl, _⟩ | ⟨g, cap, cur, rfl, _, hg, _⟩
  · simp [Value.ownBlock] at he
  · simp only [Value.ownBlock, Option.some.injEq] at he
    subst he
    exact ht _ _ hg
theorem sb_check (B b : Nat) (bs : List Value) (w : World) (h : Lib.IsBuilder 155 5 B b bs w) :
    Calls Tryz.prog 140 #[.pointer (some ⟨b, 0, none⟩)] w fun e w' => e = .returned (.tuple #[]) ∧ (Lib.BuilderAt 155 5 B b (.pointer (some ⟨b, 0, none⟩)) bs w' ∧ Below B w w' ∧ KeptB b w w') := by
  rcases h with h | h
  · refine (sb_check_fresh b w h.cell0 h.shape h.frozen0).mono ?_
    rintro e w' ⟨rfl, rfl⟩
    exact ⟨rfl, h.used _, (Below.refl B w).setCell (p := ⟨b, 0, none⟩) h.1 _, KeptB.setCell b 0 w _⟩
  · refine (sb_check_used b w h.cell0).mono ?_
    rintro e w' ⟨rfl, rfl⟩
    exact ⟨rfl, h, Below.refl B _, KeptB.refl _ _⟩
set_option maxHeartbeats 2000000 in
set_option maxRecDepth 100000 in
theorem sb_write (B b : Nat) (bs : List Value) (s : ByteArray) (w : World) (h : Lib.IsBuilder 155 5 B b bs w) (hlen : bs.length + s.size ≤ 140737488355328) (hBw : B ≤ w.heap.size) :
    Calls Tryz.prog 77 #[.pointer (some ⟨b, 0, none⟩), .string s] w fun e w' => e = .returned (.tuple #[.int .i64 s.size, .nilIface]) ∧ (Lib.BuilderAt 155 5 B b (.pointer (some ⟨b, 0, none⟩)) (bs ++ Lib.strCells s) w' ∧ Below B w w' ∧ KeptB b w w') := by
  obtain ⟨i0, hi, hz0, hz1, hz2⟩ := info_parts sb_byte
  go_enter Tryz.func77, Tryz.ntmps77
  go_wp2_with fail
  refine (sb_check B b bs _ h).mono ?_
  rintro e w1 ⟨rfl, h1, hb1, hkb1⟩
  obtain ⟨hB, v, hbk, hown, hne⟩ := h1
  have c0 : w1.cell? ⟨b, 0, none⟩ = some (.pointer (some ⟨b, 0, none⟩)) := by rw [Lib.cell_of_heap hbk]; rfl
  have c1 : w1.cell? ⟨b, 1, none⟩ = some v := by rw [Lib.cell_of_heap hbk]; rfl
  go_wp2_with (at_builtin; refine Lib.wpList_append_own_string _ rfl _ _ 153 9 rfl B 5 i0 Tryz.underlying153 Tryz.underlying9 hi hz0 hz1 hz2 _ _ _ rfl hown s rfl ?c3 ?c4 ?c5 ?_)
  case c3 => unfold maxLen; omega
  case c4 => omega
  case c5 => have := hb1.size; omega
  intro v' w2 hown' hgrow _
  have hlt : b < w1.heap.size := by
    rcases Nat.lt_or_ge b w1.heap.size with h' | h'
    · exact h'
    · simp [Array.getElem?_eq_none h'] at hbk
  have hb2 : w2.heap[b]? = some (.cells #[.pointer (some ⟨b, 0, none⟩), v] 155 (0, 0)) := by
    rw [hgrow.block b hlt (fun e => hne e.symm)]
    exact hbk
  have d0 : w2.cell? ⟨b, 0, none⟩ = some (.pointer (some ⟨b, 0, none⟩)) := by rw [Lib.cell_of_heap hb2]; rfl
  have d1 : w2.cell? ⟨b, 1, none⟩ = some v := by rw [Lib.cell_of_heap hb2]; rfl
  have f1 : w2.frozen? ⟨b, 1, none⟩ = false := Lib.frozen_of_heap hb2 1
  obtain ⟨ao, n', cap, rfl⟩ : ∃ ao n' cap, v' = .slice ao n' cap := by
    rcases hown'.2 with ⟨hv, _⟩ | ⟨g, cap, cur, hv, _⟩
    · exact ⟨_, _, _, hv⟩
    · exact ⟨_, _, _, hv⟩
  go_wp2
  go_ret2
  refine ⟨rfl, ?_, ?_, (hkb1.trans (KeptB.grown hown hgrow) hb1.size).trans (KeptB.setCell b 1 w2 _) (Nat.le_trans hb1.size hgrow.size)⟩
  · exact Lib.BuilderAt.put (T := 155) (e := 5) hB hb2 (bs' := bs ++ Lib.strCells s) (by simpa [Lib.strCells_length] using hown') (by decide)
  · exact (hb1.grown hgrow (by have := hb1.size; omega) (fun k hk => (hown.lt k hk).1)).setCell (p := ⟨b, 1, none⟩) hB _

/-- the text being made: a builder of no more than so many bytes -/
def SbAt (B b N : Nat) (w : World) : Prop := ∃ bs : List UInt8, Lib.IsBuilder 155 5 B b (Lib.byteCells bs) w ∧ bs.length ≤ N
theorem strCells_byte (s : ByteArray) : Lib.strCells s = Lib.byteCells s.data.toList := by simp [Lib.strCells, Lib.byteCells]
theorem join_len (sep : List UInt8) : ∀ (xs : List (List UInt8)) (M : Nat), (∀ x ∈ xs, x.length ≤ M) → (Lib.join xs sep).length ≤ xs.length * (M + sep.length)
  | [], M, _ => by simp [Lib.join]
  | [x], M, h => by
    have := h x (by simp)
    simp [Lib.join]; omega
  | x :: y :: r, M, h => by
    have h1 := h x (by simp)
    have h2 := join_len sep (y :: r) M (fun z hz => h z (List.mem_cons_of_mem _ hz))
    have e1 : (Lib.join (x :: y :: r) sep).length = x.length + (sep.length + (Lib.join (y :: r) sep).length) := by simp [Lib.join]
    have e2 : (x :: y :: r).length * (M + sep.length) = (y :: r).length * (M + sep.length) + (M + sep.length) := by
      rw [List.length_cons (a := x), Nat.add_mul, Nat.one_mul]
    omega
theorem byteCells_append (a b : List UInt8) : Lib.byteCells (a ++ b) = Lib.byteCells a ++ Lib.byteCells b := by simp [Lib.byteCells]
theorem _root_.Go.Lib.IsBuilder.belowW {T e B b : Nat} {bs : List Value} {w w' : World} (h : Lib.IsBuilder T e B b bs w) (hb : Below w.heap.size w w') : Lib.IsBuilder T e B b bs w' := by
  have key : ∀ p, Lib.BuilderAt T e B b p bs w → Lib.BuilderAt T e B b p bs w' := by
    rintro p ⟨h1, v, h2, h3, h4⟩
    refine ⟨h1, v, (hb.block _ (Array.getElem?_eq_some_iff.1 h2).1).trans h2, ?_, h4⟩
    refine ⟨h3.1, ?_⟩
    rcases h3.2 with h | ⟨g, cap, cur, k1, k2, k3, k4⟩
    · exact .inl h
    · exact .inr ⟨g, cap, cur, k1, k2, (hb.block g (Array.getElem?_eq_some_iff.1 k3).1).trans k3, k4⟩
  exact h.imp (key _) (key _)
set_option maxHeartbeats 1000000 in
set_option maxRecDepth 100000 in
theorem print_say {B b N : Nat} {w : World} (h : SbAt B b N w) (hB : B ≤ w.heap.size) (bk c : Nat) (xs : List ByteArray) (hx : ∀ (j : Nat) (x : ByteArray), xs[j]? = some x → w.cell? ⟨bk, j, none⟩ = some (.string x)) (hk : bk < w.heap.size) (hn : xs.length ≤ 6) (hc : xs.length ≤ c) (hs : ∀ x ∈ xs, x.size ≤ 2000000) (hN : N ≤ 1000000000000) :
    Calls Tryz.prog 76 #[.slice (some ⟨bk, 0, none⟩) xs.length c, .pointer (some ⟨b, 0, none⟩)] w fun e w' => e = .returned (.tuple #[]) ∧ SbAt B b (N + 12000007) w' ∧ Below B w w' ∧ KeptB b w w' := by
  obtain ⟨bs, hb, hbl⟩ := h
  have hj : (Lib.join (xs.map fun x => x.data.toList) [32]).length ≤ 6 * (2000000 + 1) := by
    refine Nat.le_trans (join_len _ _ 2000000 ?_) ?_
    · intro x hx
      obtain ⟨y, hy, rfl⟩ := List.mem_map.1 hx
      show y.data.toList.length ≤ 2000000
      rw [Array.length_toList]
      exact hs y hy
    · simp only [List.length_map, List.length_cons, List.length_nil]
      exact Nat.mul_le_mul_right _ hn
  have hJ := Tryz.strings_Join bk 0 c xs ⟨#[32]⟩ w (fun j x h => by simpa using hx j x h) hk (by omega) hc (by have := hj; simp only [] at this ⊢; omega)
  have HB := Lib.hid hb; clear hb
  generalize hjo : Lib.join (xs.map fun x => x.data.toList) [32] = jo at hj
  rw [show (ByteArray.mk #[32]).data.toList = [32] from rfl, hjo] at hJ
  clear hx hs hjo
  have hsz : jo.length + 1 ≤ 9223372036854775807 := by omega
  go_enter Tryz.func76, Tryz.ntmps76
  go_wp2_with fail
  refine hJ.mono ?_
  rintro e w1 ⟨rfl, hb1⟩
  go_wp2_with fail
  have hW := sb_write B b _ (ByteArray.mk jo.toArray ++ ByteArray.mk #[10]) w1 (HB.out.belowW hb1) (by
    have h1 : (ByteArray.mk jo.toArray ++ ByteArray.mk #[10]).size = jo.length + 1 := by rw [ByteArray.size_append]; rfl
    rw [h1, Lib.byteCells_length]; omega) (Nat.le_trans hB hb1.size)
  refine hW.mono ?_
  rintro e w2 ⟨rfl, h2, hb2, hkb2⟩
  have hkb3 := (KeptB.of_below (b := b) hb1).trans hkb2 hb1.size
  have hA : SbAt B b (N + 12000007) w2 := by
    refine ⟨bs ++ (ByteArray.mk jo.toArray ++ ByteArray.mk #[10]).data.toList, .inr ?_, ?_⟩
    · rw [byteCells_append, ← strCells_byte]; exact h2
    · have : (ByteArray.mk jo.toArray ++ ByteArray.mk #[10]).data.toList = jo ++ [10] := by simp
      rw [this]; simp; omega
  have HA := Lib.hid hA; clear hA h2 hW
  have hb3 : Below B w w2 := (hb1.mono hB).trans hb2
  go_wp2_with fail
  go_end0
  exact ⟨rfl, HA.out, hb3, hkb3⟩
theorem print_label {w : World} {bp n cp : Nat} {ao : Option Addr} {f : Nat → ByteArray} (hp : w.cell? ⟨bp, 0, none⟩ = some (.slice ao n cp)) (hs : SlAt w ao n 1 (strC f)) (l : Int) (hl : labB n l = true) (hn : n ≤ 100000) :
    Calls Tryz.prog 79 #[.int .i64 l, .pointer (some ⟨bp, 0, none⟩)] w fun e w' => e = .returned (.string (f l.toNat)) ∧ w = w' := by
  obtain ⟨k, rfl⟩ : ∃ k : Nat, l = k := ⟨l.toNat, by have := of_decide_eq_true hl; omega⟩
  have hk : k < n := by have := of_decide_eq_true hl; omega
  obtain ⟨a, off, rfl, hcs⟩ := hs.resolve_left (by omega)
  have d0 := hcs k hk 0 (by omega)
  simp only [Nat.mul_one, Nat.add_zero, strC] at d0
  have hk2 : (k : Int) < n := by omega
  have hk0 : (0 : Int) ≤ k := by omega
  clear hcs hs hl
  simp only [Int.toNat_natCast]
  go_enter Tryz.func79, Tryz.ntmps79
  go_wp2
  go_ret
  exact ⟨rfl, rfl⟩
theorem print_work {w : World} {bp n cp : Nat} {ao : Option Addr} {f : Nat → ByteArray × Int × Int} (hp : w.cell? ⟨bp, 4, none⟩ = some (.slice ao n cp)) (hs : SlAt w ao n 3 (siiC f)) (l : Int) (hl : labB n l = true) (hn : n ≤ 100000) :
    Calls Tryz.prog 80 #[.int .i64 l, .pointer (some ⟨bp, 0, none⟩)] w fun e w' => e = .returned (.string (f l.toNat).1) ∧ w = w' := by
  obtain ⟨k, rfl⟩ : ∃ k : Nat, l = k := ⟨l.toNat, by have := of_decide_eq_true hl; omega⟩
  have hk : k < n := by have := of_decide_eq_true hl; omega
  obtain ⟨a, off, rfl, hcs⟩ := hs.resolve_left (by omega)
  have d0 := hcs k hk 0 (by omega)
  simp only [Nat.add_zero, siiC, if_true] at d0
  have hk2 : (k : Int) < n := by omega
  have hk0 : (0 : Int) ≤ k := by omega
  clear hcs hs hl
  simp only [Int.toNat_natCast]
  go_enter Tryz.func80, Tryz.ntmps80
  go_wp2
  go_ret
  exact ⟨rfl, rfl⟩
/-- the package's tables -/
structure GlAt (w : World) : Prop where
  db : DbAt w
  tab : Lib.TabIs Tryz.prog w "internal/strconv.uint64pow10" .u64 Lib.pow10Tab
theorem GlAt.below {w w' : World} (h : GlAt w) (hb : Below w.heap.size w w') : GlAt w' := by
  refine ⟨h.db.kept (kall hb) trivial, ?_⟩
  have h2 := h.tab
  unfold Lib.TabIs World.var? at h2 ⊢
  cases hg : Tryz.prog.globalNamed "internal/strconv.uint64pow10" with
  | none => rw [hg] at h2; cases h2
  | some g =>
    rw [hg] at h2
    simp only [Option.bind_some] at h2 ⊢
    have hlt : g < w.heap.size := by
      rcases Nat.lt_or_ge g w.heap.size with h' | h'
      · exact h'
      · rw [Array.getElem?_eq_none h'] at h2; cases h2
    rw [hb.block g hlt]
    exact h2
theorem below_drewN (w : World) (k : Nat) : Below w.heap.size w (w.drewN k) := ⟨rfl, rfl, rfl, Nat.le_refl _, fun _ _ => rfl⟩
theorem below_grow (w : World) (os : Array Obj) : Below w.heap.size w («Sort».grow w os) := ⟨rfl, rfl, rfl, by simp [«Sort».grow], fun k hk => by simp [«Sort».grow, Array.getElem?_append_left hk]⟩
theorem text_Digits_mid (n : Nat) (hn : n ≤ 1000) (w : World) (hg : GlAt w) : Calls Tryz.prog 82 #[.int .i64 n] w fun e w' => (e = .returned (.tuple #[.string ⟨(Lib.itoa n).toArray⟩, .int .i64 0])) ∧ Below w.heap.size w w' := by
  have h1 : (n : Int) ≤ 9007199254740991 := by omega
  have h0 : (0 : Int) ≤ n := by omega
  have hI := Tryz.strconv_Itoa (n : Int) (by omega) (by omega) w hg.tab
  clear hg
  go_enter Tryz.func82, Tryz.ntmps82
  go_wp2_with fail
  refine hI.mono ?_
  rintro e w' ⟨rfl, k, os, rfl⟩
  have hb : Below w.heap.size w («Sort».grow (w.drewN k) os) := (below_drewN w k).trans (show Below w.heap.size (w.drewN k) _ from below_grow (w.drewN k) os)
  go_wp2_with fail
  go_ret2
  exact ⟨rfl, hb⟩
theorem print_digits (n : Nat) (hn : n ≤ 1000) (w : World) (hg : GlAt w) :
    Calls Tryz.prog 81 #[.int .i64 n] w fun e w' => (∃ s : ByteArray, e = .returned (.string s) ∧ s.size ≤ 2000000) ∧ Below w.heap.size w w' := by
  have hl := Lib.itoa_length_le (n : Int) (by omega) (by omega)
  have hD := text_Digits_mid n hn w hg
  generalize Lib.itoa (n : Int) = it at hl hD
  clear hg
  go_enter Tryz.func81, Tryz.ntmps81
  go_wp2_with fail
  refine hD.mono ?_
  rintro e w1 ⟨rfl, hb⟩
  go_wp2_with fail
  go_ret
  exact ⟨⟨_, rfl, by show it.toArray.size ≤ _; simp; omega⟩, hb⟩
end Go.Proofs.YteblahoijolegaaGreatDoor
end
section
set_option linter.all false
namespace Go.Proofs.YteblahoijolegaaGreatDoor
open Go.RowKit

theorem Cells.kept {keep : Nat → Prop} {w w' : World} {l : List (Nat × Nat × Value)} (h : Cells w l) (hb : Kept keep w w') (hk : ∀ x ∈ l, keep x.1) : Cells w' l := fun x hx => hb.cell (h x hx) (hk x hx)
structure SeenAt (w : World) (bs : Nat) (s : Nat → Nat) : Prop where
  blk : ∃ arr : Array Value, w.heap[bs]? = some (.cells arr 213) ∧ ∀ k, k < 6 → arr[k]? = some (.int .i64 (s k))
theorem SeenAt.cells {w : World} {bs : Nat} {s : Nat → Nat} (h : SeenAt w bs s) (k : Nat) (hk : k < 6) : w.cell? ⟨bs, k, none⟩ = some (.int .i64 (s k)) := by
  obtain ⟨arr, h1, h2⟩ := h.blk
  rw [cell_of h1, h2 k hk]
theorem SeenAt.free {w : World} {bs : Nat} {s : Nat → Nat} (h : SeenAt w bs s) (k : Nat) : w.frozen? ⟨bs, k, none⟩ = false := by
  obtain ⟨arr, h1, h2⟩ := h.blk
  exact free_of h1
theorem SeenAt.below {w w' : World} {bs : Nat} {s : Nat → Nat} (h : SeenAt w bs s) (hb : Below w.heap.size w w') : SeenAt w' bs s := by
  obtain ⟨arr, h1, h2⟩ := h.blk
  exact ⟨arr, (hb.block _ (Array.getElem?_eq_some_iff.1 h1).1).trans h1, h2⟩
theorem SeenAt.set {w : World} {bs v : Nat} {s : Nat → Nat} (h : SeenAt w bs s) (hv : v < 6) : SeenAt (w.setCell ⟨bs, v, none⟩ (.int .i64 ((s v : Int) + 1))) bs (upS s v) := by
  obtain ⟨arr, h1, h2⟩ := h.blk
  refine ⟨arr.setIfInBounds v (.int .i64 ((s v : Int) + 1)), heap_set _ h1, fun k hk => ?_⟩
  rw [Array.getElem?_setIfInBounds]
  have hsz : v < arr.size := (Array.getElem?_eq_some_iff.1 (h2 v hv)).1
  by_cases hkv : v = k
  · subst hkv
    simp [upS, hsz]
  · rw [if_neg hkv, h2 k hk]
    simp [upS, Ne.symm hkv]
/-- what a call of comes does, with this much fuel -/
def ComesC (g : Nat → Nat × Nat) (i c0 : Nat) (L : List (Nat × Nat × Value)) (a off bs bc bj bi bm f : Nat) : Prop :=
  ∀ (v : Nat) (s : Nat → Nat) (B : Nat) (W : World), v < 6 → unS s < f → BndS B i s → B ≤ 1000000 → Cells W L → SlAt W (some ⟨a, off, none⟩) i 2 (fun k j => .int .i64 (if j = 0 then ((g k).1 : Int) else ((g k).2 : Int))) → SeenAt W bs s →
    Calls Tryz.prog 125 #[.int .i64 v, .pointer (some ⟨bc, 0, none⟩), .pointer (some ⟨bs, 0, none⟩), .pointer (some ⟨bj, 0, none⟩), .pointer (some ⟨bi, 0, none⟩), .pointer (some ⟨bm, 0, none⟩)] W fun e W' =>
      e = .returned (.bool (comesF g i c0 f v s).1) ∧ SeenAt W' bs (comesF g i c0 f v s).2 ∧ BndS (B + 1) i (comesF g i c0 f v s).2 ∧ unS (comesF g i c0 f v s).2 ≤ unS s ∧ Kept (fun k => k ≠ bs) W W'
def comesV (bc bs bj bi bm : Nat) : Value := .func (.func 125) #[] #[.pointer (some ⟨bc, 0, none⟩), .pointer (some ⟨bs, 0, none⟩), .pointer (some ⟨bj, 0, none⟩), .pointer (some ⟨bi, 0, none⟩), .pointer (some ⟨bm, 0, none⟩)]
set_option maxHeartbeats 1000000 in
theorem comes1 {g : Nat → Nat × Nat} {i c0 : Nat} {L : List (Nat × Nat × Value)} {a off bs bc bj bi bm f : Nat} (hc : ComesC g i c0 L a off bs bc bj bi bm f)
    (k : Nat) (hg : (g k).2 < 6) (v : Nat) (bf : Nat) (s : Nat → Nat) (B : Nat) (W : World) (hu : unS s < f) (hB : BndS B i s) (hB2 : B ≤ 1000000) (hL : Cells W L) (hs : SlAt W (some ⟨a, off, none⟩) i 2 (fun k j => .int .i64 (if j = 0 then ((g k).1 : Int) else ((g k).2 : Int)))) (hS : SeenAt W bs s)
    (hm : W.cell? ⟨bm, 0, none⟩ = some (comesV bc bs bj bi bm)) (hf : W.cell? ⟨bf, 0, none⟩ = some (.int .i64 v)) :
    Calls Tryz.prog 126 #[.agg #[.int .i64 (g k).1, .int .i64 (g k).2], .pointer (some ⟨bf, 0, none⟩), .pointer (some ⟨bm, 0, none⟩)] W fun e W' =>
      e = .returned (.bool (if (g k).1 = v then comesF g i c0 f (g k).2 s else (false, s)).1) ∧ SeenAt W' bs (if (g k).1 = v then comesF g i c0 f (g k).2 s else (false, s)).2 ∧ BndS (B + 1) i (if (g k).1 = v then comesF g i c0 f (g k).2 s else (false, s)).2 ∧ unS (if (g k).1 = v then comesF g i c0 f (g k).2 s else (false, s)).2 ≤ unS s ∧ Kept (fun k => k ≠ bs) W W' := by
  rw [comesV] at hm
  obtain ⟨w0, hw0⟩ : ∃ w0 : World, w0 = W.alloc (.cells #[.int .i64 (g k).1, .int .i64 (g k).2] 60) := ⟨_, rfl⟩
  have hb0 : Below W.heap.size W w0 := by rw [hw0]; (repeat first | exact Below.refl _ _ | assumption | refine Below.alloc ?_ (by simp; try omega) _ | refine Below.drew ?_ | refine Below.drewN ?_ _ | refine Below.setCell ?_ (by simp; try omega) _ | refine Below.trans ?_ (Below.mono (by assumption) (by simp; try omega)))
  have hn0 : w0.heap[W.heap.size]? = some (.cells #[.int .i64 (g k).1, .int .i64 (g k).2] 60) := by rw [hw0]; exact heap_new W _
  have e0 := cell_of (o := 0) hn0; have e1 := cell_of (o := 1) hn0
  have m0 := (hb0.cell (p := ⟨bm, 0, none⟩) (cell_lt hm)).trans hm
  have f0 := (hb0.cell (p := ⟨bf, 0, none⟩) (cell_lt hf)).trans hf
  have hk0 : Kept (fun k => k ≠ bs) W w0 := kept_of_below hb0 (fun k h _ => h)
  have hcc := hc (g k).2 s B w0 hg hu hB hB2 (hL.below hb0) (hs.below hb0) (hS.below hb0)
  have HS := Lib.hid (hS.below hb0)
  have HB := Lib.hid hB
  have HK := Lib.hid hk0
  clear hL hs hS hn0 hc hB hk0 hm hf
  have m1 := m0; have f1 := f0; have e2 := e0; have e3 := e1
  rw [hw0] at m1 f1 e2 e3
  have HW := Lib.hid hw0; clear hw0
  by_cases he : (g k).1 = v
  · subst he
    simp only [if_true]
    generalize comesF g i c0 f (g k).2 s = q at hcc ⊢
    obtain ⟨qb, qs⟩ := q
    dsimp only at hcc ⊢
    have HCC := Lib.hid hcc; clear hcc
    go_enter Tryz.func126, Tryz.ntmps126
    go_wp2_with fail
    rw [← HW.out]
    refine HCC.out.mono ?_
    rintro e w1 ⟨rfl, hS1, hB1, hu1, hk1⟩
    have HS1 := Lib.hid hS1; clear hS1
    have HB1 := Lib.hid hB1; clear hB1
    cases qb
    · go_wp2_with fail
      go_ret
      exact ⟨rfl, HS1.out, HB1.out, hu1, HK.out.trans hk1⟩
    · go_wp2_with fail
      go_ret
      exact ⟨rfl, HS1.out, HB1.out, hu1, HK.out.trans hk1⟩
  · have he2 : (((g k).1 : Int) == (v : Int)) = false := by simp; omega
    simp only [if_neg he]
    clear he hcc
    go_enter Tryz.func126, Tryz.ntmps126
    go_wp2_with fail
    go_ret
    exact ⟨rfl, HW.out ▸ HS.out, HB.out.mono (by omega), Nat.le_refl _, HW.out ▸ HK.out⟩
end Go.Proofs.YteblahoijolegaaGreatDoor
end
section
set_option linter.all false
namespace Go.Proofs.YteblahoijolegaaGreatDoor
open Go.RowKit

structure EnvC (L : List (Nat × Nat × Value)) (i n cp c0 a off bs bc bj bJ bp bi bm : Nat) : Prop where
  list : L = [(bc, 0, .int .i64 c0), (bj, 0, .pointer (some ⟨bJ, 0, none⟩)), (bJ, 0, .pointer (some ⟨bp, 0, none⟩)), (bp, 6, .slice (some ⟨a, off, none⟩) n cp), (bi, 0, .int .i64 i), (bm, 0, comesV bc bs bj bi bm)]
  ne : ∀ x ∈ L, x.1 ≠ bs
  nea : a ≠ bs
  lt : i < n
  small : n ≤ 100000
  cap : n ≤ cp
theorem comes_zero {g : Nat → Nat × Nat} {i c0 : Nat} {L : List (Nat × Nat × Value)} {a off bs bc bj bi bm : Nat} : ComesC g i c0 L a off bs bc bj bi bm 0 := by
  intro v s B W _ h; omega
set_option maxHeartbeats 4000000 in
set_option maxRecDepth 20000 in
theorem comes_succ {g : Nat → Nat × Nat} {L : List (Nat × Nat × Value)} {i n cp c0 a off bs bc bj bJ bp bi bm f : Nat} (hE : EnvC L i n cp c0 a off bs bc bj bJ bp bi bm) (hg : ∀ k, k < i → (g k).2 < 6)
    (hc : ComesC g i c0 L a off bs bc bj bi bm f) : ComesC g i c0 L a off bs bc bj bi bm (f + 1) := by
  intro v s B W hv hu hB hB2 hL hs hS
  have hbs : bs < W.heap.size := cell_lt (hS.cells 0 (by omega))
  have hin := hE.lt; have hsm := hE.small; have hcap := hE.cap
  have hi2 : (i : Int) ≤ n := by omega
  have hi3 : (i : Int) ≤ cp := by omega
  have hn3 : (n : Int) ≤ cp := by omega
  have hi0 : (0 : Int) ≤ i := by omega
  obtain ⟨w0, hw0⟩ : ∃ w0 : World, w0 = W.alloc (.cells #[.int .i64 v] 3) := ⟨_, rfl⟩
  have hb0 : Below W.heap.size W w0 := by rw [hw0]; (repeat first | exact Below.refl _ _ | assumption | refine Below.alloc ?_ (by simp; try omega) _ | refine Below.drew ?_ | refine Below.drewN ?_ _ | refine Below.setCell ?_ (by simp; try omega) _ | refine Below.trans ?_ (Below.mono (by assumption) (by simp; try omega)))
  have hn0 : w0.heap[W.heap.size]? = some (.cells #[.int .i64 v] 3) := by rw [hw0]; exact heap_new W _
  have e0 := cell_of (o := 0) hn0
  have hk0 : Kept (fun k => k ≠ bs) W w0 := kept_of_below hb0 (fun k h _ => h)
  have hL0 := hL.below hb0
  have hS0 := hS.below hb0
  have hL1 := hL0
  rw [hE.list] at hL1
  have x0 := hL1.head; have x1 := hL1.tail.head; have x2 := hL1.tail.tail.head; have x3 := hL1.tail.tail.tail.head; have x4 := hL1.tail.tail.tail.tail.head
  clear hL1
  have y0 := hS0.cells v hv
  have hBv := hB v
  have hs2 : (s v : Int) ≤ 1000000 := by omega
  have hs0 : (0 : Int) ≤ s v := by omega
  have hv2 : (v : Int) < 6 := by omega
  have hv1 : (0 : Int) ≤ v := by omega
  obtain ⟨w1, hw1⟩ : ∃ w1 : World, w1 = (W.setCell ⟨bs, v, none⟩ (.int .i64 ((s v : Int) + 1))).alloc (.cells #[.int .i64 v] 3) := ⟨_, rfl⟩
  have hwS : Kept (fun k => k ≠ bs) W w1 := by rw [hw1]; exact ((Kept.refl _ W).setCell (by simp) _).alloc _
  have hSS : SeenAt w1 bs (upS s v) := by rw [hw1]; exact (hS.set hv).below ((Below.refl _ _).alloc (Nat.le_refl _) _)
  have hL1 := hL.kept hwS hE.ne
  have hs1 := hs.kept hwS (fun a h => by cases h; exact hE.nea)
  have hL2 := hL1
  rw [hE.list] at hL2
  have z0 := hL2.head; have z1 := hL2.tail.head; have z2 := hL2.tail.tail.head; have z3 := hL2.tail.tail.tail.head; have z4 := hL2.tail.tail.tail.tail.head
  have v0 := hSS.cells v hv
  rw [show ((upS s v v : Nat) : Int) = (s v : Int) + 1 by simp [upS]] at v0
  have hsz1 : w1.heap.size = W.heap.size + 1 := by rw [hw1]; simp [World.setCell]
  have u0 : w1.cell? ⟨W.heap.size, 0, none⟩ = some (.int .i64 v) := by
    have := cell_of (o := 0) (heap_new (W.setCell ⟨bs, v, none⟩ (.int .i64 ((s v : Int) + 1))) (.cells #[.int .i64 v] 3))
    rw [← hw1] at this
    simpa [World.setCell] using this
  have U0 := Lib.hid u0
  have y1 := hS0.free v
  rw [hw0] at x0 x1 x2 x3 x4 y0 y1 e0
  have hne := hE.ne
  rw [hE.list] at hne
  have ne1 : bj ≠ bs := hne _ (.tail _ (.head _))
  have ne2 : bJ ≠ bs := hne _ (.tail _ (.tail _ (.head _)))
  have ne3 : bp ≠ bs := hne _ (.tail _ (.tail _ (.tail _ (.head _))))
  have ne4 : bi ≠ bs := hne _ (.tail _ (.tail _ (.tail _ (.tail _ (.head _)))))
  have q1 := z1; have q2 := z2; have q3 := z3; have q4 := z4
  rw [hw1] at z0 z1 z2 z3 z4 v0 u0
  have HS := Lib.hid hS
  have HL := Lib.hid hL
  have HB := Lib.hid hB
  have HSS := Lib.hid hSS
  have HKS := Lib.hid hwS
  have HK0 := Lib.hid hk0
  have HE := Lib.hid hE
  have HW := Lib.hid hw0
  have HW1 := Lib.hid hw1
  have HS0 := Lib.hid hS0
  have HC := Lib.hid hc
  have HG := Lib.hid hg
  have HL1 := Lib.hid hL1
  have HSL := Lib.hid hs1
  have HU := Lib.hid hu
  have HZ1 := Lib.hid hsz1
  have HBN : W.heap.size ≠ bs := by omega
  clear hL hL0 hs hs1 hS hS0 hc hg hB hk0 hw0 hw1 hwS hSS hn0 hE hu hL1 hL2 hne hsz1
  by_cases he : v = c0
  · have hr : comesF g i c0 (f + 1) v s = (true, s) := by rw [comesF, if_pos he]
    rw [hr]
    subst he
    clear hr
    go_enter Tryz.func125, Tryz.ntmps125
    go_wp2_with fail
    go_ret
    exact ⟨rfl, HW.out ▸ HS0.out, HB.out.mono (by omega), Nat.le_refl _, HW.out ▸ HK0.out⟩
  · have he2 : ((v : Int) == (c0 : Int)) = false := by simp; omega
    by_cases h0 : s v = 0
    · have h1 : ¬ 1 < upS s v v := by simp [upS, h0]
      have h2 : decide ((1 : Int) < (s v : Int) + 1) = false := decide_eq_false (by omega)
      have hcf := containsFuncS (some ⟨a, off, none⟩) i cp (by omega) (fun k j => .int .i64 (if j = 0 then ((g k).1 : Int) else ((g k).2 : Int))) (fun k s' W' => SeenAt W' bs s' ∧ BndS (B + 1 - i + k) i s' ∧ unS s' ≤ unS (upS s v)) (fun k => k ≠ bs)
        (fun k s => if (g k).1 = v then comesF g i c0 f (g k).2 s else (false, s)) 126 #[.pointer (some ⟨W.heap.size, 0, none⟩), .pointer (some ⟨bm, 0, none⟩)] (enters_of Tryz.func126 (by kernel_rfl) rfl) w1.drew (HSL.out.kept (keep := fun _ => True) (Kept.refl _ w1).drew (fun _ _ => trivial))
        (fun a h => by cases h; exact HE.out.nea) (upS s v) ⟨HSS.out.below (Below.refl _ w1).drew, (HB.out.up0 hv h0).mono (by omega), Nat.le_refl _⟩ (fun k hk s' W' hkW0 ⟨i1, i2, i3⟩ => by
          have hkW := ((Kept.refl (fun k => k ≠ bs) w1).drew).trans hkW0
          have hun := unS_up0 hv h0
          have hu := HU.out
          have hLW := HL1.out.kept hkW HE.out.ne
          have hm : W'.cell? ⟨bm, 0, none⟩ = some (comesV bc bs bj bi bm) := by
            have h := hLW; rw [HE.out.list] at h; exact h.tail.tail.tail.tail.tail.head
          have hpos : i ≤ B := by
            have h1 := HB.out v
            rw [← hun, Nat.mul_add, Nat.mul_one] at h1
            omega
          refine (comes1 HC.out k (HG.out k hk) v W.heap.size s' (B + 1 - i + k) W' (by omega) i2 (by omega) hLW (HSL.out.kept hkW (fun a h => by cases h; exact HE.out.nea)) i1 hm (hkW.cell U0.out HBN)).mono ?_
          rintro e W2 ⟨h1, h2, h3, h4, h5⟩
          exact ⟨h1, ⟨h2, h3, Nat.le_trans h4 i3⟩, h5⟩)
      have hr : comesF g i c0 (f + 1) v s = (decide (0 ≤ (scanI (fun k s => if (g k).1 = v then comesF g i c0 f (g k).2 s else (false, s)) i 0 (upS s v)).1),
        (scanI (fun k s => if (g k).1 = v then comesF g i c0 f (g k).2 s else (false, s)) i 0 (upS s v)).2) := by rw [comesF, if_neg he, if_neg h1]
      rw [hr]
      generalize scanI (fun k s => if (g k).1 = v then comesF g i c0 f (g k).2 s else (false, s)) i 0 (upS s v) = r at hcf ⊢
      obtain ⟨rn, rs⟩ := r
      dsimp only at hcf ⊢
      generalize decide (0 ≤ rn) = rb at hcf ⊢
      have HCF := Lib.hid hcf; clear hcf
      have HUU := Lib.hid (unS_up0 hv h0)
      have HBB := Lib.hid (show i ≤ B from by
            have h1 := HB.out v
            rw [← HUU.out, Nat.mul_add, Nat.mul_one] at h1
            omega)
      clear he hr h1 h0
      go_enter Tryz.func125, Tryz.ntmps125
      go_wp2_with fail
      rw [← HW1.out]
      first
        | go_region_held3 (fun w' => w'.cell? ⟨bj, 0, none⟩ = some (.pointer (some ⟨bJ, 0, none⟩)) ∧ w'.cell? ⟨bJ, 0, none⟩ = some (.pointer (some ⟨bp, 0, none⟩)) ∧ w'.cell? ⟨bp, 6, none⟩ = some (.slice (some ⟨a, off, none⟩) n cp) ∧ w'.cell? ⟨bi, 0, none⟩ = some (.int .i64 i))
          (first | exact ⟨q1, q2, q3, q4⟩ | exact ⟨i4.cell q1 ne1, i4.cell q2 ne2, i4.cell q3 ne3, i4.cell q4 ne4⟩)
          (first | (refine HCF.out.mono ?_; rintro e W2 ⟨rfl, ⟨k, hk, i1, i2, i3⟩, i4⟩))
        | fail
      all_goals
        have I1 := Lib.hid i1; clear i1
        have I2 := Lib.hid i2; clear i2
        go_wp2_with fail
        go_ret
        have hb := HBB.out
        have hu2 := HUU.out
        exact ⟨rfl, I1.out, I2.out.mono (by omega), by omega, HKS.out.trans (((Kept.refl _ w1).drew).trans i4)⟩
    · have h1 : 1 < upS s v v := by simp [upS]; omega
      have hr : comesF g i c0 (f + 1) v s = (false, upS s v) := by rw [comesF, if_neg he, if_pos h1]
      have hun := unS_up1 h0
      rw [hr]
      have h2 : decide ((1 : Int) < (s v : Int) + 1) = true := decide_eq_true (by omega)
      have HR := Lib.hid hun
      clear he hr hun h1 h0
      go_enter Tryz.func125, Tryz.ntmps125
      go_wp2_with fail
      go_ret
      exact ⟨rfl, HW1.out ▸ HSS.out, HB.out.up hv, Nat.le_of_eq HR.out, HW1.out ▸ HKS.out⟩
theorem comes_all {g : Nat → Nat × Nat} {L : List (Nat × Nat × Value)} {i n cp c0 a off bs bc bj bJ bp bi bm : Nat} (hE : EnvC L i n cp c0 a off bs bc bj bJ bp bi bm) (hg : ∀ k, k < i → (g k).2 < 6) :
    ∀ f, ComesC g i c0 L a off bs bc bj bi bm f
  | 0 => comes_zero
  | f + 1 => comes_succ hE hg (comes_all hE hg f)
end Go.Proofs.YteblahoijolegaaGreatDoor
end
