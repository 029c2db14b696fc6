import Derived.Test.YteblahoijolegaaGreatDoorM07
import Derived.BigQuiet
import Derived.BigRegion
import Derived.ChangeAlike
import Derived.Deep.DeepCutAuto
import Derived.Deep.Light
import Derived.Deep.LoopGhost
import Derived.Deep.MidRow
import Derived.Deep.QuietTactic
import Derived.Deep.RegionHeld3
import Derived.Deep.WholeRow
import Derived.Defers
import Derived.Great.Walk
import Derived.Laws.BitsAllLaws
import Derived.Laws.CopyOwn
import Derived.Laws.EntriesVeiled
import Derived.Laws.LoneSync
import Derived.Laws.Pointers
import Derived.Laws.StructEq
import Derived.Lib.Hide
import Derived.Lib.LazyBuf
import Derived.Lib.SliceRun
import Derived.LoopIn
import Derived.LoopNIn
import Derived.Maps.AppendAt
import Derived.OwnWalkIn
import Derived.RangeFuncBox
import Derived.RangeFuncKeeps
import Derived.RangeFuncLeaves
import Derived.RangeFuncSeq
import Derived.RegionCalls
import Derived.RegionIn
import Derived.RegionTactic
import Derived.Shelf.Abstract
import Derived.TacticsInMore
import Derived.Test.YteblahoijolegaaGreatDoorShelf
import Derived.WalkKit
import Derived.WalkLawsBesides
import Derived.WalkSpells
import Derived.WideLaws
section
set_option linter.all false
namespace Go.Proofs.YteblahoijolegaaGreatDoor
open Go.RowKit

theorem below_setCells (b : Nat) : ∀ (vs : List Value) (o : Nat) {B : Nat} {a w : World}, Below B a w → B ≤ b → Below B a (w.setCells b o vs)
  | [], _, _, _, _, h, _ => h
  | v :: r, o, _, _, _, h, hB => by
    rw [World.setCells]
    exact below_setCells b r (o + 1) (h.setCell hB _) hB
theorem heap_setCells_ne (b k : Nat) (hk : k ≠ b) : ∀ (vs : List Value) (o : Nat) (w : World), (w.setCells b o vs).heap[k]? = w.heap[k]?
  | [], _, _ => rfl
  | v :: r, o, w => by
    rw [World.setCells, heap_setCells_ne b k hk r (o + 1)]
    exact heap_setne v hk
theorem size_setCells (b : Nat) : ∀ (vs : List Value) (o : Nat) (w : World), (w.setCells b o vs).heap.size = w.heap.size
  | [], _, _ => rfl
  | v :: r, o, w => by rw [World.setCells, size_setCells b r (o + 1), size_set]
/-- a table of 256 bytes, cell by cell -/
def TabC (w : World) (b : Nat) (f : Nat → Int) : Prop := ∀ q, q < 256 → w.cell? ⟨b, q, none⟩ = some (.int .u8 (f q))
theorem tabC_of {w : World} {b : Nat} {f : Nat → Int} (h : w.there b 0 256) : TabC (w.setCells b 0 (tbl f).toList) b f := by
  intro q hq
  have h1 := World.rangeAt_setCells_same w b 0 (tbl f).toList (by rw [Array.length_toList, tbl_size]; exact h) q (.int .u8 (f q)) (by rw [Array.getElem?_toList, tbl_get _ _ hq])
  rwa [Nat.zero_add] at h1
theorem TabC.alloc {w : World} {b : Nat} {f : Nat → Int} (h : TabC w b f) (o : Obj) : TabC (w.alloc o) b f := fun q hq => by
  rw [cell_alloc_lt (cell_lt (h q hq))]; exact h q hq
theorem TabC.set {w : World} {b : Nat} {f : Nat → Int} (h : TabC w b f) {b' : Nat} (hb : b ≠ b') (i : Nat) (v : Value) : TabC (w.setCell ⟨b', i, none⟩ v) b f := fun q hq => by
  rw [cell_set_ne hb]; exact h q hq
theorem there_new (w : World) (Z : Array Value) (t : Nat) (hZ : Z.size = 256) : (w.alloc (.cells Z t)).there w.heap.size 0 256 := by
  intro j hj
  rw [Nat.zero_add]
  refine ⟨?_, free_of (heap_new w _)⟩
  rw [cell_of (heap_new w _), Array.getElem?_eq_getElem (by omega)]; rfl
theorem there_below {B : Nat} {w w' : World} {b : Nat} (h : w.there b 0 256) (hb : Below B w w') (hB : b < B) : w'.there b 0 256 := by
  intro j hj
  obtain ⟨h1, h2⟩ := h j hj
  obtain ⟨u, hu⟩ := Option.isSome_iff_exists.1 h1
  have hc := hb.cell (p := ⟨b, 0 + j, none⟩) hB
  exact ⟨by rw [hc]; exact h1, by rw [hb.frozen (p := ⟨b, 0 + j, none⟩) hB]; exact h2⟩

theorem Tryz.byteI : (Tryz.prog.info? 5).map (fun i => (i.zero, i.size, i.bytes)) = some (some (.int .u8 0), 1, 1) := by kernel_rfl
/-- a row of bytes -/
def bytesOfL (l : List Int) : Array Value := (l.map fun s => Value.int .u8 s).toArray
theorem run_mk_bytes (n : Nat) (hn : n ≤ 100000) (w : World) : (Instr.makeSlice 153 (.int .i64 n) (.int .i64 n)).run Tryz.prog w = .ok (.slice (some ⟨w.heap.size, 0, none⟩) n n) (w.alloc (.cells (bytesOfL (List.replicate n 0)) 5)) := by
  obtain ⟨i0, hi, hz0, hz1, hz2⟩ := info_parts Tryz.byteI
  have h1 : (i0.bytes : Int) * (n : Int) ≤ 281474976710656 := by rw [hz2]; omega
  have := run_make (P := Tryz.prog) w 153 5 i0 _ Tryz.underlying153 hi hz0 .i64 .i64 n n (by omega) (by omega) h1 (by omega)
  rw [this, hz1]
  simp only [Int.toNat_natCast]
  have : madeCells (Value.int IntKind.u8 0).cells (n * 1) = bytesOfL (List.replicate n 0) := ?_
  · rw [this]
  apply Array.ext'
  rw [show (Value.int IntKind.u8 0).cells = #[Value.int .u8 0] from rfl, Nat.mul_one, toList_madeCells_one]
  simp [bytesOfL]

/-- the folded bytes -/
def foldN (c : UInt8) : Int := headT c.toNat
def foldB (s : ByteArray) : Bool := s.size != 0 && (decide (s.size ≤ 30) && s.data.toList.all fun c => foldN c != 0)
def foldT (s : ByteArray) : ByteArray := ⟨(s.data.toList.map fun c => UInt8.ofNat (foldN c).toNat).toArray⟩
def foldV (s : ByteArray) : Value := if foldB s then .tuple #[.string (foldT s), .bool true] else .tuple #[.string ⟨#[]⟩, .bool false]
theorem byteRow_at (l : List Int) (j : Nat) (h : l.length = j) {n : Nat} (hj : j < n) : (bytesOfL (l ++ List.replicate (n - j) 0))[j]? = some (.int .u8 0) := by
  subst h
  simp [bytesOfL, List.getElem?_append_right, hj]
  rw [List.getElem?_replicate, if_pos (by omega)]
theorem foldB_no {s : ByteArray} {j : Nat} (hlt : j < s.size) (h : headT (s[j]'hlt).toNat = 0) : foldB s = false := by
  cases hb : foldB s
  · rfl
  · exfalso
    simp only [foldB, Bool.and_eq_true, List.all_eq_true] at hb
    have h2 := hb.2.2 (s.data[j]'hlt) (by simp)
    simp only [foldN, bne_iff_ne] at h2
    exact h2 h
theorem foldB_yes {s : ByteArray} (h0 : 0 < s.size) (h30 : s.size ≤ 30) (h : ∀ c ∈ s.data.toList, foldN c ≠ 0) : foldB s = true := by
  simp only [foldB, Bool.and_eq_true, List.all_eq_true, decide_eq_true_eq, bne_iff_ne]
  exact ⟨by omega, h30, h⟩
theorem headT_byte (c : UInt8) : ((UInt8.ofNat (foldN c).toNat).toNat : Int) = foldN c := by
  have := c.toNat_lt
  have h1 : 0 ≤ foldN c ∧ foldN c < 256 := by
    unfold foldN headT
    split
    · omega
    · split <;> omega
  rw [UInt8.toNat_ofNat']
  omega
theorem byteRow_set (s : ByteArray) (j : Nat) (hlt : j < s.size) : (bytesOfL (((s.data.toList.take j).map foldN) ++ List.replicate (s.size - j) 0)).setIfInBounds j (.int .u8 (headT (s[j]'hlt).toNat)) = bytesOfL (((s.data.toList.take (j + 1)).map foldN) ++ List.replicate (s.size - (j + 1)) 0) := by
  have hj : j < s.data.toList.length := by rw [Array.length_toList]; exact hlt
  have e1 : s.data.toList.take (j + 1) = s.data.toList.take j ++ [s.data.toList[j]'hj] := by rw [List.take_add_one, List.getElem?_eq_getElem hj]; rfl
  have e2 : s.size - j = (s.size - (j + 1)) + 1 := by omega
  rw [e1, e2, List.replicate_succ]
  have hlen : (s.data.toList.take j).length = j := by rw [List.length_take]; omega
  apply Array.ext'
  simp only [bytesOfL, Array.toList_setIfInBounds, List.map_append, List.map_cons, List.map_map]
  rw [List.set_append_right _ _ (by simp only [List.length_map]; omega)]
  simp only [List.length_map, hlen, Nat.sub_self, List.set_cons_zero, List.map_nil, List.append_assoc, List.cons_append, List.nil_append]
  rfl
set_option maxHeartbeats 2000000 in
set_option maxRecDepth 20000 in
theorem head_folded (s : ByteArray) (w : World) : Calls Tryz.prog 251 #[.string s] w fun e w' => e = .returned (foldV s) ∧ Below w.heap.size w w' := by
  by_cases h0 : s.size = 0
  · have h0i : (s.size : Int) = 0 := by omega
    have hv : foldV s = .tuple #[.string ⟨#[]⟩, .bool false] := by simp [foldV, foldB, h0]
    have HV := Lib.hid hv; clear hv
    have h0b : ((s.size : Int) == 0) = true := by simp [h0]
    clear h0 h0i
    go_enter Tryz.func251, Tryz.ntmps251
    go_wp2
    go_ret2
    exact ⟨by rw [HV.out]; rfl, Below.refl _ _⟩
  · have h0b : ((s.size : Int) == 0) = false := beq_false_of_ne (by omega)
    by_cases h30 : 30 < s.size
    · have h30i : (30 : Int) < s.size := by omega
      have hv : foldV s = .tuple #[.string ⟨#[]⟩, .bool false] := by
        have : ¬ s.size ≤ 30 := by omega
        simp [foldV, foldB, this]
      have HV := Lib.hid hv; clear hv
      go_enter Tryz.func251, Tryz.ntmps251
      go_wp2
      go_ret2
      exact ⟨by rw [HV.out]; rfl, Below.refl _ _⟩
    · have h30i : ¬ (30 : Int) < s.size := by omega
      obtain ⟨hz, hs⟩ := zero_of_info Tryz.headZ
      obtain ⟨Z, hZ⟩ : ∃ Z : Array Value, Z = Array.replicate 256 (.int .u8 0) := ⟨_, rfl⟩
      rw [← hZ] at hz
      have hZs : Z.size = 256 := by rw [hZ]; simp
      clear hZ
      have hmk := run_mk_bytes s.size (by omega)
      obtain ⟨M, hM⟩ : ∃ M : Array Value, M = bytesOfL (List.replicate s.size 0) := ⟨_, rfl⟩
      rw [← hM] at hmk
      have hbu : ∀ W, Calls Tryz.prog 265 #[] W fun e w' => e = .returned (.agg (tbl headT).toList.toArray) ∧ Below W.heap.size W w' := fun W => by rw [Array.toArray_toList]; exact head_build W
      obtain ⟨L, hL⟩ : ∃ L : List Value, L = (tbl headT).toList := ⟨_, rfl⟩
      rw [← hL] at hbu
      have hLl : L.length = 256 := by rw [hL, Array.length_toList, tbl_size]
      have hL1 : ∀ v ∈ L, v.oneCell' = true := by
        rw [hL]; intro v hv; exact (Array.all_eq_true_iff_forall_mem.1 (tbl_one headT)) v (by simpa using hv)
      have hLi : (Tryz.prog.info? 319).map (·.size) = some L.length := by rw [hLl]; exact hs
      have HB := Lib.hid hbu; clear hbu
      have HM := Lib.hid hM; clear hM
      have HL := Lib.hid hL; clear hL
      have HS := Lib.hid hs; clear hs
      have HZS := Lib.hid hZs; clear hZs
      have sz1 := size_drew w
      go_enter Tryz.func251, Tryz.ntmps251
      go_upto_region 3 with fail
      go_cut [4, 5] from 15 to 18 (fun s4 s5 wx => ∃ bt bo : Nat, s4 = .pointer (some ⟨bt, 0, none⟩) ∧ s5 = .slice (some ⟨bo, 0, none⟩) s.size s.size ∧ TabC wx bt headT ∧ wx.heap[bo]? = some (.cells M 5) ∧ bt ≠ bo ∧ w.heap.size ≤ bo ∧ Below w.heap.size w wx)
      case first =>
        go_region_held3 (fun _ => True) (exact trivial) (first
          | (go_at_call 265; refine (HB.out _).mono ?_; rintro e w1 ⟨rfl, hb1⟩
             have f1 := there_new w1 Z 319 HZS.out
             have f2 : ((w1.alloc (.cells M 5)).alloc (.cells Z 319)).there (w1.heap.size + 1) 0 256 := by
               have := there_new (w1.alloc (.cells M 5)) Z 319 HZS.out
               rwa [World.size_alloc] at this
             have f3 : ((w1.alloc (.cells Z 319)).alloc (.cells M 5)).there w1.heap.size 0 256 := World.there_alloc f1 _
             have hb2 : Below w.heap.size w w1 := Below.trans (by (repeat first | exact Below.refl _ _ | assumption | refine Below.alloc ?_ (by simp; try omega) _ | refine Below.drew ?_ | refine Below.drewN ?_ _ | refine Below.setCell ?_ (by simp; try omega) _ | refine Below.trans ?_ (Below.mono (by assumption) (by simp; try omega)))) (hb1.mono (by simp; try omega))
             first
               | (have f4 : w1.there (w.heap.size + 1) 0 256 := by
                    refine there_below (w := ((w.alloc (.cells M 5)).alloc (.cells Z 319)).drew) ?_ hb1 ?_
                    · have := there_new (w.alloc (.cells M 5)) Z 319 HZS.out
                      rw [World.size_alloc] at this
                      exact this
                    · rw [size_drew, World.size_alloc, World.size_alloc]; omega
                  have g1 : w1.heap[w.heap.size]? = some (.cells M 5) := by
                    refine (hb1.block _ ?_).trans ?_
                    · rw [size_drew, World.size_alloc, World.size_alloc]; omega
                    · exact (heap_old (by rw [World.size_alloc]; omega)).trans (heap_new w _))
               | (have f5 : w1.there w.heap.size 0 256 := by
                    refine there_below (w := (w.alloc (.cells Z 319)).drew) ?_ hb1 ?_
                    · exact there_new w Z 319 HZS.out
                    · rw [size_drew, World.size_alloc]; omega
                  have f6 : (w1.alloc (.cells M 5)).there w.heap.size 0 256 := World.there_alloc f5 _)
               | (have f5 : w1.there w.heap.size 0 256 := by
                    refine there_below (w := ((w.alloc (.cells Z 319)).alloc (.cells M 5)).drew) ?_ hb1 ?_
                    · exact World.there_alloc (there_new w Z 319 HZS.out) _
                    · rw [size_drew, World.size_alloc, World.size_alloc]; omega
                  have g1 : w1.heap[w.heap.size + 1]? = some (.cells M 5) := by
                    refine (hb1.block _ ?_).trans ?_
                    · rw [size_drew, World.size_alloc, World.size_alloc]; omega
                    · have := heap_new (w.alloc (.cells Z 319)) (.cells M 5)
                      rw [World.size_alloc] at this
                      exact this)
               | (have g1 : w1.heap[w.heap.size]? = some (.cells M 5) := by
                    refine (hb1.block _ ?_).trans ?_
                    · rw [size_drew, World.size_alloc]; omega
                    · exact heap_new w _)
               | skip))
        all_goals
          go_wp2_with fail
          go_meet
          first
            | exact ⟨w1.heap.size + 1, w1.heap.size, rfl, rfl, by rw [HL.out]; exact tabC_of (by assumption), (heap_setCells_ne _ _ (by omega) _ _ _).trans ((heap_old (by simp)).trans (heap_new w1 _)), by omega, hb2.size, below_setCells _ _ _ ((hb2.alloc hb2.size _).alloc (by simp; have := hb2.size; omega) _) (by have := hb2.size; omega)⟩
            | exact ⟨w1.heap.size, w1.heap.size + 1, rfl, rfl, by rw [HL.out]; exact tabC_of (by assumption), (heap_setCells_ne _ _ (by omega) _ _ _).trans (by (simp only [heap_drew, heap_allocs, World.size_alloc, if_true] <;> repeat (first | rw [if_pos (by omega)] | rw [if_neg (by omega)]))), by omega, by have := hb2.size; omega, below_setCells _ _ _ ((hb2.alloc hb2.size _).alloc (by simp; have := hb2.size; omega) _) hb2.size⟩
            | exact ⟨w1.heap.size, w.heap.size, rfl, rfl, by rw [HL.out]; exact tabC_of (by assumption), (heap_setCells_ne _ _ (by have := hb1.size; simp at this; omega) _ _ _).trans ((heap_old (by have := hb1.size; simp at this; omega)).trans g1), by have := hb1.size; simp at this; omega, Nat.le_refl _, below_setCells _ _ _ (hb2.alloc hb2.size _) hb2.size⟩
            | exact ⟨w.heap.size + 1, w.heap.size, rfl, rfl, by rw [HL.out]; exact tabC_of (by assumption), (heap_setCells_ne _ _ (by omega) _ _ _).trans g1, by omega, Nat.le_refl _, below_setCells _ _ _ hb2 (by omega)⟩
            | exact ⟨w.heap.size, w1.heap.size, rfl, rfl, by rw [HL.out]; exact tabC_of (by assumption), (heap_setCells_ne _ _ (by have := hb1.size; simp at this; omega) _ _ _).trans (heap_new w1 _), by have := hb1.size; simp at this; omega, hb2.size, below_setCells _ _ _ (hb2.alloc hb2.size _) (Nat.le_refl _)⟩
            | exact ⟨w.heap.size, w.heap.size + 1, rfl, rfl, by rw [HL.out]; exact tabC_of (by assumption), (heap_setCells_ne _ _ (by omega) _ _ _).trans g1, by omega, by omega, below_setCells _ _ _ hb2 (Nat.le_refl _)⟩
            | exact ⟨w.heap.size, (w1.setCells w.heap.size 0 L).heap.size, rfl, rfl, by rw [HL.out]; exact (tabC_of f5).alloc _, heap_new _ _, by rw [size_setCells]; have := hb1.size; simp at this; omega, by rw [size_setCells]; exact hb2.size, (below_setCells _ _ _ hb2 (Nat.le_refl _)).alloc (by rw [size_setCells]; exact hb2.size) _⟩
            | exact ⟨w1.heap.size, ((w1.alloc (.cells Z 319)).setCells w1.heap.size 0 L).heap.size, rfl, rfl, by rw [HL.out]; exact (tabC_of f1).alloc _, heap_new _ _, by rw [size_setCells, World.size_alloc]; omega, by rw [size_setCells, World.size_alloc]; have := hb2.size; omega, (below_setCells _ _ _ (hb2.alloc hb2.size _) hb2.size).alloc (by rw [size_setCells, World.size_alloc]; have := hb2.size; omega) _⟩
      case rest =>
        obtain ⟨bt, bo, rfl, rfl, ht, ho, hne, hbo, hb⟩ := hcut
        clear hz hmk HB HL HS HZS hLl hL1 hLi
        have HO := Lib.hid (HM.out ▸ ho); clear ho HM
        have HT := Lib.hid ht; clear ht
        have h0n : 0 < s.size := by omega
        clear h0b sz1
        go_wp2_with fail
        go_loopg [21] s.size (fun r s21 wr => ∃ (j : Nat), j ≤ s.size ∧ r = s.size - j ∧ s21 = .int .i64 j ∧ wr.heap[bo]? = some (.cells (bytesOfL (((s.data.toList.take j).map foldN) ++ List.replicate (s.size - j) 0)) 5) ∧ TabC wr bt headT ∧ Below w.heap.size w wr ∧ ∀ c ∈ s.data.toList.take j, foldN c ≠ 0)
        case atStart =>
          refine ⟨0, by omega, rfl, rfl, ?_, HT.out, hb, fun c hc => ?_⟩
          · rw [HO.out]; rfl
          · simp at hc
        case round =>
          clear hb HO HT
          obtain ⟨j, hj, rfl, rfl, ho, ht, hb, hq⟩ := hrel
          by_cases hlt : j < s.size
          · have hlt2 : (j : Int) < s.size := by omega
            have hc256 : ((s[j]'hlt).toNat : Int) < 256 := by have := (s[j]'hlt).toNat_lt; omega
            have hg := ht (s[j]'hlt).toNat (by omega)
            have ho1 : wr.cell? ⟨bo, j, none⟩ = some (.int .u8 0) := by
              rw [cell_of ho]; exact byteRow_at _ _ (by rw [List.length_map, List.length_take, Array.length_toList]; have : s.data.size = s.size := rfl; omega) hlt
            have ho2 : wr.frozen? ⟨bo, j, none⟩ = false := free_of ho
            obtain ⟨K, hK⟩ : ∃ K : Int, K = headT (s[j]'hlt).toNat := ⟨_, rfl⟩
            rw [← hK] at hg
            have HK := Lib.hid hK; clear hK
            have ho3 : (wr.setCell ⟨bo, j, none⟩ (.int .u8 K)).cell? ⟨bo, j, none⟩ = some (.int .u8 K) := World.cell?_setCell_same _ _ _ ho1
            have HO := Lib.hid ho; clear ho
            have HT := Lib.hid ht; clear ht
            have HQ := Lib.hid hq; clear hq
            by_cases k0 : K = 0
            · have k0b : (K == 0) = true := by simp [k0]
              have hv : foldV s = .tuple #[.string ⟨#[]⟩, .bool false] := by
                have hb : foldB s = false := foldB_no hlt (HK.out.symm.trans k0)
                rw [foldV, hb]; rfl
              have HV := Lib.hid hv; clear hv
              clear k0
              go_wp2
              go_ret2
              exact ⟨by rw [HV.out]; rfl, hb.setCell hbo _⟩
            · have k0b : (K == 0) = false := by simp [k0]
              clear k0
              go_wp2
              go_roundg (s.size - (j + 1))
              case measure => omega
              case rel =>
                have hK := HK.out
                refine ⟨j + 1, by omega, rfl, by go_num, ?_, HT.out.set hne _ _, hb.setCell hbo _, ?_⟩
                · rw [heap_set _ HO.out, hK]
                  congr 2
                  exact byteRow_set s j hlt
                · intro c hc
                  rw [List.take_add_one, List.getElem?_eq_getElem (by rw [Array.length_toList]; exact hlt), List.mem_append] at hc
                  rcases hc with hc | hc
                  · exact HQ.out c hc
                  · simp only [Option.toList_some, List.mem_singleton] at hc
                    subst hc
                    simp only [beq_eq_false_iff_ne] at k0b
                    rw [hK] at k0b
                    exact k0b
          · obtain rfl : s.size = j := by omega
            have hlt2 : ¬ (s.size : Int) < s.size := by omega
            have hlen : s.data.toList.length = s.size := Array.length_toList
            rw [← hlen, List.take_length] at hq
            rw [Nat.sub_self, List.replicate_zero, List.append_nil, ← hlen, List.take_length] at ho
            have hbk := run_convert_bytes_back (P := Tryz.prog) wr 153 9 5 ⟨bo, 0, none⟩ s.size (s.data.toList.map fun c => UInt8.ofNat (foldN c).toNat) Tryz.underlying153 Tryz.underlying5 Tryz.underlying9 (fun i hi => by
              have hadd : (⟨bo, 0, none⟩ : Addr).add i = ⟨bo, i, none⟩ := by unfold Addr.add; split <;> simp_all
              have hi2 : i < s.data.toList.length := by simpa using hi
              rw [hadd, cell_of ho, List.getElem_map, headT_byte]
              simp [bytesOfL, hi2]
              exact ⟨_, Array.getElem?_eq_getElem (by simpa using hi2), rfl⟩)
            rw [List.length_map, hlen] at hbk
            have hv : foldV s = .tuple #[.string (foldT s), .bool true] := by
              rw [foldV, foldB_yes h0n (by omega) hq]; rfl
            have hbk2 : (convert 153 9 (.slice (some ⟨bo, 0, none⟩) s.size s.size)).run Tryz.prog wr = .ok (.string (foldT s)) wr := hbk
            have HV := Lib.hid hv; clear hv hbk
            clear ho ht hq hlen
            go_wp2
            go_ret2
            exact ⟨by rw [HV.out]; rfl, hb⟩

def alikeB (a b : ByteArray) : Bool := foldB a && (foldB b && (foldT a).toList == (foldT b).toList)
theorem head_Alike (a b : ByteArray) (w : World) : Calls Tryz.prog 233 #[.string a, .string b] w fun e w' => e = .returned (.bool (alikeB a b)) ∧ Below w.heap.size w w' := by
  cases ha : foldB a
  · have hva : foldV a = .tuple #[.string ⟨#[]⟩, .bool false] := by rw [foldV, ha]; rfl
    have hr : alikeB a b = false := by simp [alikeB, ha]
    rw [hr]
    have H := Lib.hid hva; clear hva ha hr
    go_enter Tryz.func233, Tryz.ntmps233
    go_wp2_with fail
    refine (head_folded a w).mono ?_; rintro e w1 ⟨rfl, hb1⟩
    rw [H.out]
    go_wp2_with fail
    refine (head_folded b w1).mono ?_; rintro e w2 ⟨rfl, hb2⟩
    have hb3 := hb1.trans (hb2.mono hb1.size)
    unfold foldV
    cases foldB b
    all_goals
      go_wp2
      go_ret
      exact ⟨rfl, hb3⟩
  · have hva : foldV a = .tuple #[.string (foldT a), .bool true] := by rw [foldV, ha]; rfl
    cases hb : foldB b
    · have hvb : foldV b = .tuple #[.string ⟨#[]⟩, .bool false] := by rw [foldV, hb]; rfl
      have hr : alikeB a b = false := by simp [alikeB, hb]
      rw [hr]
      have H := Lib.hid hva; clear hva ha hr
      have H2 := Lib.hid hvb; clear hvb hb
      go_enter Tryz.func233, Tryz.ntmps233
      go_wp2_with fail
      refine (head_folded a w).mono ?_; rintro e w1 ⟨rfl, hb1⟩
      rw [H.out]
      go_wp2_with fail
      refine (head_folded b w1).mono ?_; rintro e w2 ⟨rfl, hb2⟩
      have hb3 := hb1.trans (hb2.mono hb1.size)
      rw [H2.out]
      go_wp2
      go_ret
      exact ⟨rfl, hb3⟩
    · have hvb : foldV b = .tuple #[.string (foldT b), .bool true] := by rw [foldV, hb]; rfl
      have hr : alikeB a b = ((foldT a).toList == (foldT b).toList) := by simp [alikeB, ha, hb]
      rw [hr]
      have H := Lib.hid hva; clear hva ha hr
      have H2 := Lib.hid hvb; clear hvb hb
      go_enter Tryz.func233, Tryz.ntmps233
      go_wp2_with fail
      refine (head_folded a w).mono ?_; rintro e w1 ⟨rfl, hb1⟩
      rw [H.out]
      go_wp2_with fail
      refine (head_folded b w1).mono ?_; rintro e w2 ⟨rfl, hb2⟩
      have hb3 := hb1.trans (hb2.mono hb1.size)
      rw [H2.out]
      go_wp2
      go_ret
      exact ⟨rfl, hb3⟩

/-- http.kept of the one head that policy.path hands over -/
def lenB (s : ByteArray) : Bool := alikeB s ⟨#[67, 111, 110, 116, 101, 110, 116, 45, 76, 101, 110, 103, 116, 104]⟩
theorem http_isLength (s : ByteArray) (w : World) : Calls Tryz.prog 231 #[.string s] w fun e w' => e = .returned (.bool (lenB s)) ∧ Below w.heap.size w w' := by
  go_enter Tryz.func231, Tryz.ntmps231
  go_wp2_with fail
  refine (head_Alike _ _ w).mono ?_; rintro e w1 ⟨rfl, hb1⟩
  go_wp2
  go_ret
  exact ⟨rfl, hb1⟩
end Go.Proofs.YteblahoijolegaaGreatDoor
end
section
set_option linter.all false
namespace Go.Proofs.YteblahoijolegaaGreatDoor
open Go.RowKit

def codB (s : ByteArray) : Bool := alikeB s ⟨#[84, 114, 97, 110, 115, 102, 101, 114, 45, 69, 110, 99, 111, 100, 105, 110, 103]⟩
theorem http_isCoding (s : ByteArray) (w : World) : Calls Tryz.prog 232 #[.string s] w fun e w' => e = .returned (.bool (codB s)) ∧ Below w.heap.size w w' := by
  go_enter Tryz.func232, Tryz.ntmps232
  go_wp2_with fail
  refine (head_Alike _ _ w).mono ?_; rintro e w1 ⟨rfl, hb1⟩
  go_wp2
  go_ret
  exact ⟨rfl, hb1⟩
def conB (s : ByteArray) : Bool := alikeB s ⟨#[67, 111, 110, 110, 101, 99, 116, 105, 111, 110]⟩
def keptB (s : ByteArray) : Bool := !lenB s && (!codB s && !conB s)
theorem http_kept (s : ByteArray) (w : World) : Calls Tryz.prog 207 #[.string s] w fun e w' => e = .returned (.bool (keptB s)) ∧ Below w.heap.size w w' := by
  unfold keptB
  have H1 := fun W => http_isLength s W
  have H2 := fun W => http_isCoding s W
  have H3 := fun W => head_Alike s ⟨#[67, 111, 110, 110, 101, 99, 116, 105, 111, 110]⟩ W
  rw [show alikeB s ⟨#[67, 111, 110, 110, 101, 99, 116, 105, 111, 110]⟩ = conB s from rfl] at H3
  generalize lenB s = l1 at H1 ⊢
  generalize codB s = l2 at H2 ⊢
  generalize conB s = c at H3 ⊢
  cases l1
  · cases l2
    · go_enter Tryz.func207, Tryz.ntmps207
      go_wp2_with fail
      refine (H1 _).mono ?_; rintro e w1 ⟨rfl, hb1⟩
      go_wp2_with fail
      refine (H2 _).mono ?_; rintro e w2 ⟨rfl, hb2⟩
      go_wp2_with fail
      refine (H3 _).mono ?_; rintro e w3 ⟨rfl, hb3⟩
      have hb := (hb1.trans (hb2.mono hb1.size)).trans (hb3.mono (hb1.trans (hb2.mono hb1.size)).size)
      go_wp2_with fail
      go_ret
      exact ⟨by cases c <;> rfl, hb⟩
    · go_enter Tryz.func207, Tryz.ntmps207
      go_wp2_with fail
      refine (H1 _).mono ?_; rintro e w1 ⟨rfl, hb1⟩
      go_wp2_with fail
      refine (H2 _).mono ?_; rintro e w2 ⟨rfl, hb2⟩
      have hb := hb1.trans (hb2.mono hb1.size)
      go_wp2_with fail
      go_ret
      exact ⟨rfl, hb⟩
  · go_enter Tryz.func207, Tryz.ntmps207
    go_wp2_with fail
    refine (H1 _).mono ?_; rintro e w1 ⟨rfl, hb1⟩
    go_wp2_with fail
    go_ret
    exact ⟨rfl, hb1⟩
theorem http_Check1 (n v : ByteArray) (w : World) : Calls Tryz.prog 206 #[.agg #[.string n, .string v]] w fun e w' => e = .returned (.bool (!keptB n)) ∧ Below w.heap.size w w' := by
  have hb0 : Below w.heap.size w (w.alloc (.cells #[.string n, .string v] 249)) := (Below.refl _ w).alloc (Nat.le_refl _) _
  go_enter Tryz.func206, Tryz.ntmps206
  go_wp2_with fail
  refine (http_kept n _).mono ?_; rintro e w1 ⟨rfl, hb1⟩
  have hb := hb0.trans (hb1.mono hb0.size)
  go_wp2_with fail
  go_ret
  exact ⟨rfl, hb⟩

def oddB (r : Nat) : Bool := decide ((r : Int) < 32) || decide ((126 : Int) < r)
theorem head_value1 (r : Nat) (w : World) : Calls Tryz.prog 266 #[.int .i32 r] w fun e w' => e = .returned (.bool (oddB r)) ∧ w = w' := by
  go_enter Tryz.func266, Tryz.ntmps266
  by_cases h1 : (r : Int) < 32
  · go_wp2
    go_ret
    exact ⟨by simp [oddB, h1], rfl⟩
  · go_wp2
    go_ret
    have e1 : oddB r = decide ((126 : Int) < r) := by rw [oddB, decide_eq_false (Int.not_lt.2 h1), Bool.false_or]
    rw [e1]
    exact ⟨rfl, rfl⟩
def valueB (s : ByteArray) : Bool := decide (s.size ≤ 200) && (decide (Lib.idxFunc oddB true s < 0) && (Lib.trimB s.data.toList 32 == s.data.toList))
theorem head_value (s : ByteArray) (w : World) (hs : s.size ≤ 9223372036854775807) : Calls Tryz.prog 252 #[.string s] w fun e w' => e = .returned (.bool (valueB s)) ∧ Below w.heap.size w w' := by
  have hp : PredGrows Tryz.prog 266 #[] oddB w := by
    intro W x hx hB
    refine (head_value1 x W).mono ?_
    rintro e w' ⟨rfl, rfl⟩
    exact ⟨rfl, Below.refl _ _⟩
  have hi := Tryz.strings_IndexFunc_grows 266 #[] (enters_of Tryz.func266 (by kernel_rfl) rfl) oddB s w hp
  have HI := Lib.hid hi; clear hi hp
  unfold valueB
  by_cases h200 : s.size ≤ 200
  · have h2 : (s.size : Int) ≤ 200 := by omega
    by_cases hx : Lib.idxFunc oddB true s < 0
    · go_enter Tryz.func252, Tryz.ntmps252
      go_wp2_with fail
      refine HI.out.mono ?_; rintro e w1 ⟨rfl, hb1⟩
      go_wp2_with fail
      refine (Tryz.strings_Trim_one s 32 (by decide) w1 hs).mono ?_; rintro e w2 ⟨rfl, hw2⟩
      have hb2 : Below w.heap.size w w2 := by rcases hw2 with rfl | rfl; exact hb1; exact hb1.drew
      clear hw2
      go_wp2_with fail
      go_ret
      have e1 : (Lib.trimB s.data.toList 32 == s.data.toList) = (Lib.trimB s.data.toList 32 == s.toList) := by rw [ByteArray.toList_eq]
      rw [e1]
      simp only [h200, hx, decide_true, Bool.true_and]
      exact ⟨rfl, hb2⟩
    · go_enter Tryz.func252, Tryz.ntmps252
      go_wp2_with fail
      refine HI.out.mono ?_; rintro e w1 ⟨rfl, hb1⟩
      go_wp2_with fail
      go_ret
      exact ⟨by rw [decide_eq_false (Int.not_lt.2 hx), Bool.false_and]; rfl, hb1⟩
  · have h2 : ¬ (s.size : Int) ≤ 200 := by omega
    go_enter Tryz.func252, Tryz.ntmps252
    go_wp2
    go_ret
    exact ⟨by simp [h200], Below.refl _ _⟩

def mayH (n v : ByteArray) : Bool := foldB n && valueB v
theorem head_may (n v : ByteArray) (w : World) (hs : v.size ≤ 9223372036854775807) : Calls Tryz.prog 235 #[.agg #[.string n, .string v]] w fun e w' => e = .returned (.bool (mayH n v)) ∧ Below w.heap.size w w' := by
  have hb0 : Below w.heap.size w (w.alloc (.cells #[.string n, .string v] 249)) := (Below.refl _ w).alloc (Nat.le_refl _) _
  have q0 := cell_of (o := 0) (heap_new w (.cells #[.string n, .string v] 249))
  have q1 := cell_of (o := 1) (heap_new w (.cells #[.string n, .string v] 249))
  unfold mayH
  cases hf : foldB n
  · have hva : foldV n = .tuple #[.string ⟨#[]⟩, .bool false] := by rw [foldV, hf]; rfl
    have H := Lib.hid hva; clear hva hf
    go_enter Tryz.func235, Tryz.ntmps235
    go_wp2_with fail
    refine (head_folded n _).mono ?_; rintro e w1 ⟨rfl, hb1⟩
    rw [H.out]
    have hb := hb0.trans (hb1.mono hb0.size)
    go_wp2_with fail
    go_ret
    exact ⟨rfl, hb⟩
  · have hva : foldV n = .tuple #[.string (foldT n), .bool true] := by rw [foldV, hf]; rfl
    have H := Lib.hid hva; clear hva hf
    go_enter Tryz.func235, Tryz.ntmps235
    go_wp2_with fail
    refine (head_folded n _).mono ?_; rintro e w1 ⟨rfl, hb1⟩
    rw [H.out]
    have hb := hb0.trans (hb1.mono hb0.size)
    have q2 : w1.cell? ⟨w.heap.size, 1, none⟩ = some (.string v) := (hb1.cell (p := ⟨w.heap.size, 1, none⟩) (cell_lt q1)).trans q1
    clear q1 q0
    go_wp2_with fail
    refine (head_value v _ hs).mono ?_; rintro e w2 ⟨rfl, hb2⟩
    have hb3 := hb.trans (hb2.mono hb.size)
    go_wp2_with fail
    go_ret
    exact ⟨rfl, hb3⟩
theorem head_Check1 (n v : ByteArray) (w : World) (hs : v.size ≤ 9223372036854775807) : Calls Tryz.prog 234 #[.agg #[.string n, .string v]] w fun e w' => e = .returned (.bool (!mayH n v)) ∧ Below w.heap.size w w' := by
  have hb0 : Below w.heap.size w (w.alloc (.cells #[.string n, .string v] 249)) := (Below.refl _ w).alloc (Nat.le_refl _) _
  go_enter Tryz.func234, Tryz.ntmps234
  go_wp2_with fail
  refine (head_may n v _ hs).mono ?_; rintro e w1 ⟨rfl, hb1⟩
  have hb := hb0.trans (hb1.mono hb0.size)
  go_wp2_with fail
  go_ret
  exact ⟨rfl, hb⟩

/-- the one head that policy.path hands over -/
def hostN : ByteArray := ⟨#[72, 111, 115, 116]⟩
def hostX : ByteArray := ⟨#[120]⟩
def hostC (_ j : Nat) : Value := if j = 0 then .string hostN else .string hostX
theorem host_keep : keptB hostN = true := by decide +kernel
theorem host_may : mayH hostN hostX = true := by decide +kernel
theorem host_alike : alikeB hostN hostN = true := by decide +kernel
theorem head_Check_host (a c : Nat) (w : World) (h : SlAt w (some ⟨a, 0, none⟩) 1 2 hostC) : Calls Tryz.prog 208 #[.slice (some ⟨a, 0, none⟩) 1 c] w fun e w' => e = .returned (.int .i64 0) ∧ Below w.heap.size w w' := by
  have hc := containsFunc_head (some ⟨a, 0, none⟩) 1 c (by omega) hostC (fun _ => false) 234 #[] (enters_of Tryz.func234 (by kernel_rfl) rfl) w h (fun i hi W hW => by
    refine (head_Check1 hostN hostX W (by decide)).mono ?_
    rintro e w' ⟨rfl, hb⟩
    exact ⟨by rw [host_may]; rfl, hb⟩)
  have HC := Lib.hid hc; clear hc
  go_enter Tryz.func208, Tryz.ntmps208
  go_wp2_with fail
  refine HC.out.mono ?_; rintro e w1 ⟨rfl, hb1⟩
  rw [show anyx (fun _ => false) 1 = false from rfl]
  go_wp2_with fail
  go_ret
  exact ⟨rfl, hb1⟩
end Go.Proofs.YteblahoijolegaaGreatDoor
end
section
set_option linter.all false
namespace Go.Proofs.YteblahoijolegaaGreatDoor
open Go.RowKit

theorem head_Get1 (n m : ByteArray) (b : Nat) (w : World) (hb : w.cell? ⟨b, 0, none⟩ = some (.string m)) : Calls Tryz.prog 237 #[.string n, .pointer (some ⟨b, 0, none⟩)] w fun e w' => e = .returned (.bool (!alikeB n m)) ∧ Below w.heap.size w w' := by
  go_enter Tryz.func237, Tryz.ntmps237
  go_wp2_with fail
  refine (head_Alike n m _).mono ?_; rintro e w1 ⟨rfl, hb1⟩
  go_wp2_with fail
  go_ret
  exact ⟨rfl, hb1⟩
theorem kept_cell {keep : Nat → Prop} {w w' : World} (h : Kept keep w w') {b i : Nat} {v : Value} (hk : keep b) (hc : w.cell? ⟨b, i, none⟩ = some v) : w'.cell? ⟨b, i, none⟩ = some v := by
  have hb := h.block b (cell_lt hc) hk
  rw [← hc]
  simp only [World.cell?, hb]
set_option maxHeartbeats 1000000 in
theorem others1_iter (bl bg bn a c : Nat) (w : World) (hl : w.heap[bl]? = some (.cells #[.slice (some ⟨a, 0, none⟩) 1 c] 250)) (hg : w.heap[bg]? = some (.cells #[.func (.func 237) #[] #[.pointer (some ⟨bn, 0, none⟩)]] 210))
    (hn : w.heap[bn]? = some (.cells #[.string hostN] 9)) (h0 : w.cell? ⟨a, 0, none⟩ = some (.string hostN)) (h1 : w.cell? ⟨a, 1, none⟩ = some (.string hostX)) :
    IterC Tryz.prog 253 #[.pointer (some ⟨bl, 0, none⟩), .pointer (some ⟨bg, 0, none⟩)] (fun _ : Unit => #[.agg #[.string hostN, .string hostX]]) [()] (fun _ => False) (fun k => k = bl ∨ k = bg ∨ k = bn ∨ k = a) w := by
  intro l J W hK hJ hY hj0
  have HJ := Lib.hid hJ; clear hJ
  have HY := Lib.hid hY; clear hY
  have hlW : W.heap[bl]? = some (.cells #[.slice (some ⟨a, 0, none⟩) 1 c] 250) := (hK.block _ (Array.getElem?_eq_some_iff.1 hl).1 (.inl rfl)).trans hl
  have c0 : W.cell? ⟨bl, 0, none⟩ = some (.slice (some ⟨a, 0, none⟩) 1 c) := by rw [cell_of hlW]; rfl
  refine callsIn_of_wp Tryz.func253 rfl trivial ?_ rfl
  simp only [Tryz.ntmps253, List.size_toArray, List.length_cons, List.length_nil, Nat.reduceAdd, Nat.reduceSub, Array.replicate_succ, Array.replicate_zero, List.push_toArray, List.append_toArray, List.nil_append, List.cons_append]
  gi_wp2
  gi_loopw [8] (fun s8 wr => ∃ (i : Nat) (pre : List Unit), i ≤ 1 ∧ s8 = .int .i64 i ∧ ((i = 0 ∧ pre = []) ∨ (i = 1 ∧ pre = [()])) ∧ J pre wr ∧ Kept (fun k => k = bl ∨ k = bg ∨ k = bn ∨ k = a) W wr) (fun s8 _ => 1 - (Lib.intOf s8).toNat)
  case atStart => exact ⟨0, [], by omega, rfl, .inl ⟨rfl, rfl⟩, hj0, Kept.refl _ _⟩
  case round =>
    obtain ⟨i, pre, hi, rfl, hip, hj, hk⟩ := hrel
    rcases hip with ⟨rfl, rfl⟩ | ⟨rfl, rfl⟩
    · have hkw := hK.trans hk
      have d0 := kept_cell hkw (.inr (.inr (.inr rfl))) h0
      have d1 := kept_cell hkw (.inr (.inr (.inr rfl))) h1
      have cg0 : w.cell? ⟨bg, 0, none⟩ = some (.func (.func 237) #[] #[.pointer (some ⟨bn, 0, none⟩)]) := by rw [cell_of hg]; rfl
      have cn0 : w.cell? ⟨bn, 0, none⟩ = some (.string hostN) := by rw [cell_of hn]; rfl
      have cg := kept_cell hkw (.inr (.inl rfl)) cg0
      have cn := kept_cell hkw (.inr (.inr (.inl rfl))) cn0
      have kA : Kept (fun k => k = bl ∨ k = bg ∨ k = bn ∨ k = a) wr (wr.alloc (.cells #[.string hostN, .string hostX] 249)) := (Kept.refl _ _).alloc _
      have e1 := kept_cell kA (.inr (.inl rfl)) cg
      have e2 := kept_cell kA (.inr (.inr (.inl rfl))) cn
      have hb0 : Below wr.heap.size wr (wr.alloc (.cells #[.string hostN, .string hostX] 249)) := (Below.refl _ wr).alloc (Nat.le_refl _) _
      have q0 := cell_of (o := 0) (heap_new wr (.cells #[.string hostN, .string hostX] 249))
      have q1 := cell_of (o := 1) (heap_new wr (.cells #[.string hostN, .string hostX] 249))
      clear cg0 cn0
      gi_wp2_with fail
      refine ⟨trivial, rfl, ?_⟩
      refine (callsIn_wide.2 (head_Get1 hostN hostN bn _ e2)).mono ?_
      rintro e w2 ⟨rfl, hb2⟩
      rw [host_alike]
      have hb3 := hb0.trans (hb2.mono hb0.size)
      have q2 : w2.cell? ⟨wr.heap.size, 0, none⟩ = some (.string hostN) := (hb2.cell (p := ⟨wr.heap.size, 0, none⟩) (cell_lt q0)).trans q0
      have q3 : w2.cell? ⟨wr.heap.size, 1, none⟩ = some (.string hostX) := (hb2.cell (p := ⟨wr.heap.size, 1, none⟩) (cell_lt q1)).trans q1
      have hj2 : J [] w2 := HJ.out [] wr w2 hj ((kall hb3).mono fun _ _ _ => trivial)
      have hk2 : Kept (fun k => k = bl ∨ k = bg ∨ k = bn ∨ k = a) W w2 := hk.trans ((kall hb3).mono fun _ _ _ => trivial)
      obtain ⟨fn, tmps, assign, body, hy, hR⟩ := HY.out [] () w2 ⟨[], rfl⟩ hj2
      clear q0 q1 e1 e2 d0 d1 cg cn hj
      gi_wp2_with fail
      refine ⟨rfl, ?_⟩
      refine hR.mono ?_
      rintro e W3 ⟨rfl, hJ3, hk3⟩
      gi_wp2_with fail
      exact ⟨⟨1, [()], by omega, rfl, .inr ⟨rfl, rfl⟩, hJ3, hk2.trans hk3⟩, by decide⟩
    · gi_wp2_with fail
      go_end0
      exact ⟨⟨_, rfl⟩, hj⟩
end Go.Proofs.YteblahoijolegaaGreatDoor
end
