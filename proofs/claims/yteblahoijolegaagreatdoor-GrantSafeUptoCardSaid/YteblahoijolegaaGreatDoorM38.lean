import Derived.Test.YteblahoijolegaaGreatDoorM20
import Derived.Test.YteblahoijolegaaGreatDoorRows
import Derived.BigQuiet
import Derived.BigRegion
import Derived.Carry
import Derived.ChangeAlike
import Derived.ChangeMaps5
import Derived.Deep.DeepCutAuto
import Derived.Deep.Light
import Derived.Deep.LoopGhost
import Derived.Deep.MidRow
import Derived.Deep.QuietTactic
import Derived.Deep.RegionHeld3
import Derived.Deep.Slices
import Derived.Deep.WholeRow
import Derived.Defers
import Derived.Great.Walk
import Derived.Laws.BitsAllLaws
import Derived.Laws.CopyOwn
import Derived.Laws.EntriesVeiled
import Derived.Laws.LoneSync
import Derived.Laws.Pointers
import Derived.Laws.StructEq
import Derived.Lib.Hide
import Derived.Lib.LazyBuf
import Derived.Lib.SliceRun
import Derived.LoopIn
import Derived.LoopNIn
import Derived.Maps.AppendAt
import Derived.OpenShut
import Derived.OwnWalkIn
import Derived.RangeFuncBox
import Derived.RangeFuncKeeps
import Derived.RangeFuncLeaves
import Derived.RangeFuncSeq
import Derived.RegionCalls
import Derived.RegionIn
import Derived.RegionTactic
import Derived.Shelf.Abstract
import Derived.TacticsInMore
import Derived.Test.YteblahoijolegaaGreatDoorShelf
import Derived.WalkKit
import Derived.WalkLawsBesides
import Derived.WalkSpells
import Derived.WideLaws
section
set_option linter.all false
namespace Go.Proofs.YteblahoijolegaaGreatDoor
open Go.RowKit Go.ChangeShapes Go.WideShapes
set_option maxRecDepth 100000

theorem bulk_pos {H : Type} (d : DataW H) : 1 ≤ Rows.uptoBulk d := by
  cases d with
  | lit l => cases l <;> simp [Rows.uptoBulk]
  | nil => simp [Rows.uptoBulk]
  | ptr d => simp [Rows.uptoBulk]
  | slice elems spare => simp [Rows.uptoBulk]
  | agg parts => simp [Rows.uptoBulk]
  | iface t d => simp [Rows.uptoBulk]
  | map entries => simp [Rows.uptoBulk]
  | held h => simp [Rows.uptoBulk]
theorem bulk_mem {H : Type} {d : DataW H} : ∀ {l : List (DataW H)}, d ∈ l → Rows.uptoBulk d ≤ Rows.uptoBulkAll l
  | x :: r, h => by
    simp only [Rows.uptoBulkAll]
    rcases List.mem_cons.1 h with e | e
    · subst e; omega
    · have := bulk_mem e; omega
theorem bulk_len {H : Type} : ∀ (l : List (DataW H)), l.length ≤ Rows.uptoBulkAll l
  | [] => by simp [Rows.uptoBulkAll]
  | x :: r => by have := bulk_pos x; have := bulk_len r; simp only [Rows.uptoBulkAll, List.length_cons]; omega
theorem bulk_str {H : Type} (s : ByteArray) : Rows.uptoBulk (DataW.lit (H := H) (.string s.data.toList)) = s.size + 1 := by simp [Rows.uptoBulk]
section
variable {H : Type} {enc : TypeId × Value → H} {w : World} {base : Nat} {sp : Nat → Bool} {hd : Bool}
theorem cells_one_str : Tryz.prog.cellsOf 9 = 1 := by kernel_rfl
theorem cells_one_lab : Tryz.prog.cellsOf 46 = 1 := by kernel_rfl
theorem cells_one_int : Tryz.prog.cellsOf 3 = 1 := by kernel_rfl
theorem cells_src : Tryz.prog.cellsOf 96 = 3 := by kernel_rfl
theorem cells_dst : Tryz.prog.cellsOf 100 = 2 := by kernel_rfl
theorem cells_wrk : Tryz.prog.cellsOf 62 = 3 := by kernel_rfl
theorem cells_rte : Tryz.prog.cellsOf 130 = 4 := by kernel_rfl
theorem cells_grt : Tryz.prog.cellsOf 53 = 5 := by kernel_rfl
theorem cells_pair : Tryz.prog.cellsOf 60 = 2 := by kernel_rfl
theorem cells_pol : Tryz.prog.cellsOf 30 = 9 := by kernel_rfl
theorem rd_str {n : Nat} {cs : List Value} {x : DataW H × List MemPlace} (h : DataW.trod enc Tryz.prog w base sp hd n 9 cs = some x) : ∃ s : ByteArray, cs = [.string s] ∧ s.size < Rows.uptoBulk x.1 := by
  obtain ⟨s, rfl, rfl, -⟩ := DataW.trod_string Tryz.underlying9 h
  exact ⟨s, rfl, by rw [bulk_str]; omega⟩
theorem rd_lab {n : Nat} {cs : List Value} {x : DataW H × List MemPlace} (h : DataW.trod enc Tryz.prog w base sp hd n 46 cs = some x) : ∃ a : Int, cs = [.int .i64 a] := by
  obtain ⟨a, rfl, -⟩ := DataW.trod_int Tryz.underlying46 h
  exact ⟨a, rfl⟩
theorem rd_int {n : Nat} {cs : List Value} {x : DataW H × List MemPlace} (h : DataW.trod enc Tryz.prog w base sp hd n 3 cs = some x) : ∃ a : Int, cs = [.int .i64 a] := by
  obtain ⟨a, rfl, -⟩ := DataW.trod_int Tryz.underlying3 h
  exact ⟨a, rfl⟩
theorem bulk_agg {x : DataW H} {l : List (DataW H)} (h : x ∈ l) : Rows.uptoBulk x ≤ Rows.uptoBulk (.agg l) := by
  have := bulk_mem h
  simp only [Rows.uptoBulk]; omega
theorem rd_src {n : Nat} {cs : List Value} {x : DataW H × List MemPlace} (h : DataW.trod enc Tryz.prog w base sp hd n 96 cs = some x) : ∃ v : ByteArray × Int × Int, cs = [.string v.1, .int .i64 v.2.1, .int .i64 v.2.2] ∧ v.1.size < Rows.uptoBulk x.1 := by
  obtain ⟨xs, m, rfl, rfl, hl, hlen, hf⟩ := DataW.trod_struct Tryz.underlying96 h
  rw [cells_src] at hl
  match cs, hl, xs, hlen with
  | [c0, c1, c2], _, [y0, y1, y2], _ =>
    have h0 := hf 0 _ rfl
    have h1 := hf 1 _ rfl
    have h2 := hf 2 _ rfl
    simp only [cells_one_str, cells_one_lab, cells_one_int, List.drop_zero, List.drop_succ_cons, List.take_succ_cons, List.take_zero, List.getElem?_cons_zero, List.getElem?_cons_succ] at h0 h1 h2
    obtain ⟨s, e0, hs⟩ := rd_str h0
    obtain ⟨a, e1⟩ := rd_lab h1
    obtain ⟨b, e2⟩ := rd_lab h2
    cases e0; cases e1; cases e2
    exact ⟨(s, a, b), rfl, Nat.lt_of_lt_of_le hs (bulk_agg (by simp))⟩
theorem rd_dst {n : Nat} {cs : List Value} {x : DataW H × List MemPlace} (h : DataW.trod enc Tryz.prog w base sp hd n 100 cs = some x) : ∃ v : ByteArray × Int, cs = [.string v.1, .int .i64 v.2] ∧ v.1.size < Rows.uptoBulk x.1 := by
  obtain ⟨xs, m, rfl, rfl, hl, hlen, hf⟩ := DataW.trod_struct Tryz.underlying100 h
  rw [cells_dst] at hl
  match cs, hl, xs, hlen with
  | [c0, c1], _, [y0, y1], _ =>
    have h0 := hf 0 _ rfl
    have h1 := hf 1 _ rfl
    simp only [cells_one_str, cells_one_lab, cells_one_int, List.drop_zero, List.drop_succ_cons, List.take_succ_cons, List.take_zero, List.getElem?_cons_zero, List.getElem?_cons_succ] at h0 h1
    obtain ⟨s, e0, hs⟩ := rd_str h0
    obtain ⟨a, e1⟩ := rd_lab h1
    cases e0; cases e1
    exact ⟨(s, a), rfl, Nat.lt_of_lt_of_le hs (bulk_agg (by simp))⟩
theorem rd_wrk {n : Nat} {cs : List Value} {x : DataW H × List MemPlace} (h : DataW.trod enc Tryz.prog w base sp hd n 62 cs = some x) : ∃ v : ByteArray × Int × Int, cs = [.string v.1, .int .i64 v.2.1, .int .i64 v.2.2] ∧ v.1.size < Rows.uptoBulk x.1 := by
  obtain ⟨xs, m, rfl, rfl, hl, hlen, hf⟩ := DataW.trod_struct Tryz.underlying62 h
  rw [cells_wrk] at hl
  match cs, hl, xs, hlen with
  | [c0, c1, c2], _, [y0, y1, y2], _ =>
    have h0 := hf 0 _ rfl
    have h1 := hf 1 _ rfl
    have h2 := hf 2 _ rfl
    simp only [cells_one_str, cells_one_lab, cells_one_int, List.drop_zero, List.drop_succ_cons, List.take_succ_cons, List.take_zero, List.getElem?_cons_zero, List.getElem?_cons_succ] at h0 h1 h2
    obtain ⟨s, e0, hs⟩ := rd_str h0
    obtain ⟨a, e1⟩ := rd_lab h1
    obtain ⟨b, e2⟩ := rd_int h2
    cases e0; cases e1; cases e2
    exact ⟨(s, a, b), rfl, Nat.lt_of_lt_of_le hs (bulk_agg (by simp))⟩
theorem rd_rte {n : Nat} {cs : List Value} {x : DataW H × List MemPlace} (h : DataW.trod enc Tryz.prog w base sp hd n 130 cs = some x) : ∃ v : ByteArray × ByteArray × Int × Int, cs = [.string v.1, .string v.2.1, .int .i64 v.2.2.1, .int .i64 v.2.2.2] ∧ v.1.size + v.2.1.size ≤ Rows.uptoBulk x.1 := by
  obtain ⟨xs, m, rfl, rfl, hl, hlen, hf⟩ := DataW.trod_struct Tryz.underlying130 h
  rw [cells_rte] at hl
  match cs, hl, xs, hlen with
  | [c0, c1, c2, c3], _, [y0, y1, y2, y3], _ =>
    have h0 := hf 0 _ rfl
    have h1 := hf 1 _ rfl
    have h2 := hf 2 _ rfl
    have h3 := hf 3 _ rfl
    simp only [cells_one_str, cells_one_lab, cells_one_int, List.drop_zero, List.drop_succ_cons, List.take_succ_cons, List.take_zero, List.getElem?_cons_zero, List.getElem?_cons_succ] at h0 h1 h2 h3
    obtain ⟨s, e0, hs⟩ := rd_str h0
    obtain ⟨t, e1, ht⟩ := rd_str h1
    obtain ⟨a, e2⟩ := rd_int h2
    obtain ⟨b, e3⟩ := rd_int h3
    cases e0; cases e1; cases e2; cases e3
    exact ⟨(s, t, a, b), rfl, by simp only [Rows.uptoBulk, Rows.uptoBulkAll, List.map_cons]; omega⟩
theorem rd_grt {n : Nat} {cs : List Value} {x : DataW H × List MemPlace} (h : DataW.trod enc Tryz.prog w base sp hd n 53 cs = some x) : ∃ v : ByteArray × Int × Int × Int × ByteArray, cs = [.string v.1, .int .i64 v.2.1, .int .i64 v.2.2.1, .int .i64 v.2.2.2.1, .string v.2.2.2.2] ∧ v.1.size + v.2.2.2.2.size ≤ Rows.uptoBulk x.1 := by
  obtain ⟨xs, m, rfl, rfl, hl, hlen, hf⟩ := DataW.trod_struct Tryz.underlying53 h
  rw [cells_grt] at hl
  match cs, hl, xs, hlen with
  | [c0, c1, c2, c3, c4], _, [y0, y1, y2, y3, y4], _ =>
    have h0 := hf 0 _ rfl
    have h1 := hf 1 _ rfl
    have h2 := hf 2 _ rfl
    have h3 := hf 3 _ rfl
    have h4 := hf 4 _ rfl
    simp only [cells_one_str, cells_one_lab, cells_one_int, List.drop_zero, List.drop_succ_cons, List.take_succ_cons, List.take_zero, List.getElem?_cons_zero, List.getElem?_cons_succ] at h0 h1 h2 h3 h4
    obtain ⟨s, e0, hs⟩ := rd_str h0
    obtain ⟨a, e1⟩ := rd_int h1
    obtain ⟨b, e2⟩ := rd_lab h2
    obtain ⟨c, e3⟩ := rd_lab h3
    obtain ⟨t, e4, ht⟩ := rd_str h4
    cases e0; cases e1; cases e2; cases e3; cases e4
    exact ⟨(s, a, b, c, t), rfl, by simp only [Rows.uptoBulk, Rows.uptoBulkAll, List.map_cons]; omega⟩
theorem rd_pair {n : Nat} {cs : List Value} {x : DataW H × List MemPlace} (h : DataW.trod enc Tryz.prog w base sp hd n 60 cs = some x) : ∃ v : Int × Int, cs = [.int .i64 v.1, .int .i64 v.2] := by
  obtain ⟨xs, m, rfl, rfl, hl, hlen, hf⟩ := DataW.trod_array Tryz.underlying60 h
  rw [cells_pair] at hl
  match cs, hl, xs, hlen with
  | [c0, c1], _, [y0, y1], _ =>
    have h0 := hf 0 (by omega)
    have h1 := hf 1 (by omega)
    simp only [cells_one_int, Nat.zero_mul, Nat.one_mul, List.drop_zero, List.drop_succ_cons, List.take_succ_cons, List.take_zero, List.getElem?_cons_zero, List.getElem?_cons_succ] at h0 h1
    obtain ⟨a, e1⟩ := rd_int h0
    obtain ⟨b, e2⟩ := rd_int h1
    cases e1; cases e2
    exact ⟨(a, b), rfl⟩
/-- a slice that came in -/
theorem rd_slice {α : Type} [Inhabited α] {T e : TypeId} {K fuel : Nat} (cf : α → List Value) (sz : α → Nat) {cs : List Value} {x : DataW H × List MemPlace} (ht : Tryz.prog.underlying T = some (.slice e)) (hK : Tryz.prog.cellsOf e = K) (hK0 : 0 < K) (hlen : ∀ v, (cf v).length = K)
    (hrd : ∀ {n : Nat} {cs : List Value} {y : DataW H × List MemPlace}, DataW.trod enc Tryz.prog w base sp hd n e cs = some y → ∃ v : α, cs = cf v ∧ sz v ≤ Rows.uptoBulk y.1)
    (h : DataW.trod enc Tryz.prog w base sp hd fuel T cs = some x) (hspot : ∀ a n c, cs = [.slice (some a) n c] → a.spot = none) :
    ∃ (ao : Option Addr) (n cp : Nat) (f : Nat → α), cs = [.slice ao n cp] ∧ SlOk w ao n cp K (fun i j => (cf (f i))[j]?.getD undef) ∧ ∀ i, i < n → sz (f i) ≤ Rows.uptoBulk x.1 := by
  rcases Go.Deep.open_slice ht h with ⟨rfl, rfl⟩ | ⟨a, len, cap, m, n, D, Pl, rfl, hb, hl, hm, hmm, rfl, hx⟩
  · exact ⟨none, 0, 0, fun _ => default, rfl, ⟨fun _ => ⟨rfl, rfl⟩, fun a h => (by cases h), Nat.le_refl _, .inl rfl⟩, fun i hi => by omega⟩
  · have hs := hspot a len cap rfl
    obtain ⟨b, off, spot⟩ := a
    simp only at hs
    subst hs
    have hle : len ≤ m := by rw [hmm]; split <;> omega
    have hch : ∀ i, ∃ v : α, i < len → (w.cells? base (Addr.add ⟨b, off, none⟩ (i * K)) K = some (cf v) ∧ sz v ≤ Rows.uptoBulk (D i)) := fun i => by
      by_cases hi : i < len
      · obtain ⟨cs', h1, h2⟩ := hx i (by omega)
        obtain ⟨v, rfl, h3⟩ := hrd h2
        rw [hK] at h1
        exact ⟨v, fun _ => ⟨h1, h3⟩⟩
      · exact ⟨default, fun h => absurd h hi⟩
    obtain ⟨f, hf⟩ := Classical.axiomOfChoice hch
    refine ⟨some ⟨b, off, none⟩, len, cap, f, rfl, ⟨fun h => (by cases h), fun a h => (by cases h; rfl), hl, ?_⟩, fun i hi => ?_⟩
    · refine .inr ⟨b, off, rfl, fun i hi j hj => ?_⟩
      have h1 := (World.cells?_some (hf i hi).1).2.2 j hj
      have hj' : j < (cf (f i)).length := by rw [hlen]; exact hj
      show _ = some ((cf (f i))[j]?.getD undef)
      rw [List.getElem?_eq_getElem hj', Option.getD_some]
      rw [List.getElem?_eq_getElem hj'] at h1
      simpa [addr_add] using h1
    · refine Nat.le_trans (hf i hi).2 ?_
      have : D i ∈ (List.range len).map D := List.mem_map.2 ⟨i, List.mem_range.2 hi, rfl⟩
      have := bulk_mem this
      simp only [Rows.uptoBulk]; omega
theorem SlOk.congr {ao : Option Addr} {n cp K : Nat} {c c' : Nat → Nat → Value} (h : SlOk w ao n cp K c) (he : ∀ i j, j < K → c i j = c' i j) : SlOk w ao n cp K c' :=
  ⟨h.nil, h.spot, h.cap, h.sl.imp id fun ⟨a, off, h1, h2⟩ => ⟨a, off, h1, fun i hi j hj => (h2 i hi j hj).trans (by rw [he i j hj])⟩⟩
theorem spot_of {r : Reach} {b0 : Nat} {u e : TypeId} {a : Addr} {n c : Nat} (hu : Tryz.prog.underlying u = some (.slice e)) (h : Cell.okWide Tryz.prog w r b0 u (.slice (some a) n c)) : a.spot = none := by
  simp only [Cell.okWide, hu, Cell.ok, World.has] at h
  exact h.2.2.2.1
theorem types_pol : Tryz.prog.cellTypes Tryz.prog.depth 30 = some [22, 23, 24, 25, 26, 27, 23, 28, 22] := by kernel_rfl
theorem cells_sl : Tryz.prog.cellsOf 22 = 1 ∧ Tryz.prog.cellsOf 23 = 1 ∧ Tryz.prog.cellsOf 24 = 1 ∧ Tryz.prog.cellsOf 25 = 1 ∧ Tryz.prog.cellsOf 26 = 1 ∧ Tryz.prog.cellsOf 27 = 1 ∧ Tryz.prog.cellsOf 28 = 1 := ⟨by kernel_rfl, by kernel_rfl, by kernel_rfl, by kernel_rfl, by kernel_rfl, by kernel_rfl, by kernel_rfl⟩
set_option maxHeartbeats 1000000 in
/-- a policy that came in -/
theorem rd_pol {r : Reach} {b0 : Nat} {v : Value} {d : DataW H} {ps : List MemPlace} (hval : Value.okWide Tryz.prog w r b0 30 v) (h : DataW.Trod enc Tryz.prog w base sp hd 30 v d ps) :
    ∃ q P, v = .agg (polCells q P) ∧ PolAt w q P ∧ (Rows.uptoBulk d ≤ 1048576 → P.Sized) := by
  have hv : ∃ cs, v = .agg cs ∧ cs.size = Tryz.prog.cellsOf 30 ∧ Row.okWide Tryz.prog w r b0 30 cs := by
    unfold Value.okWide at hval
    rw [Tryz.underlying30] at hval
    exact hval
  obtain ⟨⟨cs⟩, rfl, hsz, ts, hts, -, hcell⟩ := hv
  rw [types_pol] at hts
  cases hts
  rw [cells_pol] at hsz
  obtain ⟨fuel, hf⟩ := h
  have hf' : DataW.trod enc Tryz.prog w base sp hd fuel 30 cs = some (d, ps) := by simpa [Value.cells] using hf
  obtain ⟨xs, m, rfl, hx, hl, hlen, hfi⟩ := DataW.trod_struct Tryz.underlying30 hf'
  simp only [Prod.mk.injEq] at hx
  obtain ⟨rfl, -⟩ := hx
  have hz : cs.length = 9 := by simpa using hsz
  clear hsz hf hf' hl
  obtain ⟨z0, z1, z2, z3, z4, z5, z6⟩ := cells_sl
  match cs, hz, xs, hlen with
  | [c0, c1, c2, c3, c4, c5, c6, c7, c8], _, [y0, y1, y2, y3, y4, y5, y6, y7, y8], _ =>
    have h0 := hfi 0 _ rfl
    have h1 := hfi 1 _ rfl
    have h2 := hfi 2 _ rfl
    have h3 := hfi 3 _ rfl
    have h4 := hfi 4 _ rfl
    have h5 := hfi 5 _ rfl
    have h6 := hfi 6 _ rfl
    have h7 := hfi 7 _ rfl
    have h8 := hfi 8 _ rfl
    simp only [z0, z1, z2, z3, z4, z5, z6, List.drop_zero, List.drop_succ_cons, List.take_succ_cons, List.take_zero, List.getElem?_cons_zero, List.getElem?_cons_succ] at h0 h1 h2 h3 h4 h5 h6 h7 h8
    have hs : ∀ (i : Nat) (c : Value) (u e : TypeId), ([c0, c1, c2, c3, c4, c5, c6, c7, c8] : List Value)[i]? = some c → ([22, 23, 24, 25, 26, 27, 23, 28, 22] : List TypeId)[i]? = some u → i < 9 → Tryz.prog.underlying u = some (.slice e) → ∀ a n k, [c] = [Value.slice (some a) n k] → a.spot = none := by
      intro i c u e hc hu hi he a n k hk
      cases hk
      obtain ⟨u', hu', hok⟩ := hcell i _ (by simpa using hc)
      rw [show i % List.length ([22, 23, 24, 25, 26, 27, 23, 28, 22] : List TypeId) = i from Nat.mod_eq_of_lt hi, hu] at hu'
      cases hu'
      exact spot_of he hok
    obtain ⟨a0, n0, k0, f0, e0, s0, g0⟩ := rd_slice (fun v : ByteArray => [Value.string v]) (fun v => v.size) Tryz.underlying22 cells_one_str (by omega) (fun _ => rfl) (fun h => by obtain ⟨s, h1, h2⟩ := rd_str h; exact ⟨s, h1, Nat.le_of_lt h2⟩) h0 (hs 0 _ _ _ rfl rfl (by omega) Tryz.underlying22)
    obtain ⟨a1, n1, k1, f1, e1, s1, g1⟩ := rd_slice (fun v : Int × Int => [Value.int .i64 v.1, Value.int .i64 v.2]) (fun _ => 0) Tryz.underlying23 cells_pair (by omega) (fun _ => rfl) (fun h => by obtain ⟨s, h1⟩ := rd_pair h; exact ⟨s, h1, Nat.zero_le _⟩) h1 (hs 1 _ _ _ rfl rfl (by omega) Tryz.underlying23)
    obtain ⟨a2, n2, k2, f2, e2, s2, g2⟩ := rd_slice (fun v : ByteArray × Int × Int => [Value.string v.1, Value.int .i64 v.2.1, Value.int .i64 v.2.2]) (fun v => v.1.size) Tryz.underlying24 cells_src (by omega) (fun _ => rfl) (fun h => by obtain ⟨s, h1, h2⟩ := rd_src h; exact ⟨s, h1, Nat.le_of_lt h2⟩) h2 (hs 2 _ _ _ rfl rfl (by omega) Tryz.underlying24)
    obtain ⟨a3, n3, k3, f3, e3, s3, g3⟩ := rd_slice (fun v : ByteArray × Int => [Value.string v.1, Value.int .i64 v.2]) (fun v => v.1.size) Tryz.underlying25 cells_dst (by omega) (fun _ => rfl) (fun h => by obtain ⟨s, h1, h2⟩ := rd_dst h; exact ⟨s, h1, Nat.le_of_lt h2⟩) h3 (hs 3 _ _ _ rfl rfl (by omega) Tryz.underlying25)
    obtain ⟨a4, n4, k4, f4, e4, s4, g4⟩ := rd_slice (fun v : ByteArray × Int × Int => [Value.string v.1, Value.int .i64 v.2.1, Value.int .i64 v.2.2]) (fun v => v.1.size) Tryz.underlying26 cells_wrk (by omega) (fun _ => rfl) (fun h => by obtain ⟨s, h1, h2⟩ := rd_wrk h; exact ⟨s, h1, Nat.le_of_lt h2⟩) h4 (hs 4 _ _ _ rfl rfl (by omega) Tryz.underlying26)
    obtain ⟨a5, n5, k5, f5, e5, s5, g5⟩ := rd_slice (fun v : ByteArray × ByteArray × Int × Int => [Value.string v.1, Value.string v.2.1, Value.int .i64 v.2.2.1, Value.int .i64 v.2.2.2]) (fun v => v.1.size + v.2.1.size) Tryz.underlying27 cells_rte (by omega) (fun _ => rfl) (fun h => by obtain ⟨s, h1, h2⟩ := rd_rte h; exact ⟨s, h1, h2⟩) h5 (hs 5 _ _ _ rfl rfl (by omega) Tryz.underlying27)
    obtain ⟨a6, n6, k6, f6, e6, s6, g6⟩ := rd_slice (fun v : Int × Int => [Value.int .i64 v.1, Value.int .i64 v.2]) (fun _ => 0) Tryz.underlying23 cells_pair (by omega) (fun _ => rfl) (fun h => by obtain ⟨s, h1⟩ := rd_pair h; exact ⟨s, h1, Nat.zero_le _⟩) h6 (hs 6 _ _ _ rfl rfl (by omega) Tryz.underlying23)
    obtain ⟨a7, n7, k7, f7, e7, s7, g7⟩ := rd_slice (fun v : ByteArray × Int × Int × Int × ByteArray => [Value.string v.1, Value.int .i64 v.2.1, Value.int .i64 v.2.2.1, Value.int .i64 v.2.2.2.1, Value.string v.2.2.2.2]) (fun v => v.1.size + v.2.2.2.2.size) Tryz.underlying28 cells_grt (by omega) (fun _ => rfl) (fun h => by obtain ⟨s, h1, h2⟩ := rd_grt h; exact ⟨s, h1, h2⟩) h7 (hs 7 _ _ _ rfl rfl (by omega) Tryz.underlying28)
    obtain ⟨a8, n8, k8, f8, e8, s8, g8⟩ := rd_slice (fun v : ByteArray => [Value.string v]) (fun v => v.size) Tryz.underlying22 cells_one_str (by omega) (fun _ => rfl) (fun h => by obtain ⟨s, h1, h2⟩ := rd_str h; exact ⟨s, h1, Nat.le_of_lt h2⟩) h8 (hs 8 _ _ _ rfl rfl (by omega) Tryz.underlying22)
    cases e0; cases e1; cases e2; cases e3; cases e4; cases e5; cases e6; cases e7; cases e8
    have j1 : ∀ j, j < 1 → j = 0 := fun j h => by omega
    have j2 : ∀ j, j < 2 → j = 0 ∨ j = 1 := fun j h => by omega
    have j3 : ∀ j, j < 3 → j = 0 ∨ j = 1 ∨ j = 2 := fun j h => by omega
    have j4 : ∀ j, j < 4 → j = 0 ∨ j = 1 ∨ j = 2 ∨ j = 3 := fun j h => by omega
    have j5 : ∀ j, j < 5 → j = 0 ∨ j = 1 ∨ j = 2 ∨ j = 3 ∨ j = 4 := fun j h => by omega
    refine ⟨⟨a0, a1, a2, a3, a4, a5, a6, a7, a8, k0, k1, k2, k3, k4, k5, k6, k7, k8⟩, ⟨n0, n1, n2, n3, n4, n5, n6, n7, n8, f0, f1, f2, f3, f4, f5, f6, f7, f8⟩, rfl,
      ⟨s0.congr fun i j hj => ?_, s1.congr fun i j hj => ?_, s2.congr fun i j hj => ?_, s3.congr fun i j hj => ?_, s4.congr fun i j hj => ?_, s5.congr fun i j hj => ?_, s6.congr fun i j hj => ?_, s7.congr fun i j hj => ?_, s8.congr fun i j hj => ?_⟩, fun hbk => ?_⟩
    · obtain rfl := j1 j hj; rfl
    · rcases j2 j hj with rfl | rfl <;> rfl
    · rcases j3 j hj with rfl | rfl | rfl <;> rfl
    · rcases j2 j hj with rfl | rfl <;> rfl
    · rcases j3 j hj with rfl | rfl | rfl <;> rfl
    · rcases j4 j hj with rfl | rfl | rfl | rfl <;> rfl
    · rcases j2 j hj with rfl | rfl <;> rfl
    · rcases j5 j hj with rfl | rfl | rfl | rfl | rfl <;> rfl
    · obtain rfl := j1 j hj; rfl
    · have b0 : Rows.uptoBulk y0.1 ≤ 1048576 := Nat.le_trans (bulk_agg (by simp)) hbk
      have b2 : Rows.uptoBulk y2.1 ≤ 1048576 := Nat.le_trans (bulk_agg (by simp)) hbk
      have b3 : Rows.uptoBulk y3.1 ≤ 1048576 := Nat.le_trans (bulk_agg (by simp)) hbk
      have b4 : Rows.uptoBulk y4.1 ≤ 1048576 := Nat.le_trans (bulk_agg (by simp)) hbk
      have b5 : Rows.uptoBulk y5.1 ≤ 1048576 := Nat.le_trans (bulk_agg (by simp)) hbk
      have b7 : Rows.uptoBulk y7.1 ≤ 1048576 := Nat.le_trans (bulk_agg (by simp)) hbk
      have b8 : Rows.uptoBulk y8.1 ≤ 1048576 := Nat.le_trans (bulk_agg (by simp)) hbk
      exact ⟨fun i hi => Nat.le_trans (g0 i hi) b0, fun i hi => Nat.le_trans (g2 i hi) b2, fun i hi => Nat.le_trans (g3 i hi) b3, fun i hi => Nat.le_trans (g4 i hi) b4, fun i hi => by have := g5 i hi; dsimp only at this ⊢; omega, fun i hi => by have := g7 i hi; dsimp only at this ⊢; omega, fun i hi => Nat.le_trans (g8 i hi) b8⟩
end
end Go.Proofs.YteblahoijolegaaGreatDoor
end
