import Derived.Test.YteblahoijolegaaGreatDoorM06
import Derived.BigQuiet
import Derived.BigRegion
import Derived.ChangeAlike
import Derived.Deep.DeepCutAuto
import Derived.Deep.Light
import Derived.Deep.LoopGhost
import Derived.Deep.MidRow
import Derived.Deep.QuietTactic
import Derived.Deep.RegionHeld3
import Derived.Deep.WholeRow
import Derived.Defers
import Derived.Great.Walk
import Derived.Laws.BitsAllLaws
import Derived.Laws.CopyOwn
import Derived.Laws.EntriesVeiled
import Derived.Laws.LoneSync
import Derived.Laws.Pointers
import Derived.Laws.StructEq
import Derived.Lib.Hide
import Derived.Lib.LazyBuf
import Derived.Lib.SliceRun
import Derived.LoopIn
import Derived.LoopNIn
import Derived.Maps.AppendAt
import Derived.OwnWalkIn
import Derived.RangeFuncBox
import Derived.RangeFuncKeeps
import Derived.RangeFuncLeaves
import Derived.RangeFuncSeq
import Derived.RegionCalls
import Derived.RegionIn
import Derived.RegionTactic
import Derived.Shelf.Abstract
import Derived.TacticsInMore
import Derived.Test.YteblahoijolegaaGreatDoorShelf
import Derived.WalkKit
import Derived.WalkLawsBesides
import Derived.WalkSpells
import Derived.WideLaws
section
set_option linter.all false
namespace Go.Proofs.YteblahoijolegaaGreatDoor
open Go.RowKit
open Go.Great (wpList_runTo)

/-- a row of 256 bytes -/
def tbl (f : Nat → Int) : Array Value := (Array.range 256).map fun q => .int .u8 (f q)
theorem tbl_size (f : Nat → Int) : (tbl f).size = 256 := by simp [tbl]
theorem tbl_get (f : Nat → Int) (q : Nat) (h : q < 256) : (tbl f)[q]? = some (.int .u8 (f q)) := by simp [tbl, h]
theorem tbl_set (f : Nat → Int) (q : Nat) (x : Int) (h : q < 256) : (tbl f).setIfInBounds q (.int .u8 x) = tbl (upd f q x) := by
  apply Array.ext_getElem?
  intro i
  by_cases hi : i < 256
  · rw [tbl_get _ _ hi]
    by_cases e : i = q
    · subst e; rw [Array.getElem?_setIfInBounds_self_of_lt (by rw [tbl_size]; omega)]; simp [upd]
    · rw [Array.getElem?_setIfInBounds_ne (by omega), tbl_get _ _ hi]; simp [upd, e]
  · rw [Array.getElem?_eq_none (by simp [tbl_size]; omega), Array.getElem?_eq_none (by rw [tbl_size]; omega)]
theorem tbl_one (f : Nat → Int) : (tbl f).all (·.oneCell') = true := by
  rw [Array.all_eq_true_iff_forall_mem]
  intro v hv
  simp only [tbl, Array.mem_map] at hv
  obtain ⟨q, _, rfl⟩ := hv
  rfl
theorem tbl_zero : Array.replicate 256 (Value.int .u8 0) = tbl fun _ => 0 := by
  apply Array.ext_getElem?
  intro i
  by_cases hi : i < 256
  · rw [tbl_get _ _ hi]; simp [hi]
  · rw [Array.getElem?_eq_none (by simp; omega), Array.getElem?_eq_none (by rw [tbl_size]; omega)]
/-- a row of 256 bytes in memory -/
def TblAt (w : World) (b t : Nat) (f : Nat → Int) : Prop := w.heap[b]? = some (.cells (tbl f) t)
theorem TblAt.get {w b t f} (h : TblAt w b t f) (q : Nat) (hq : q < 256) : w.cell? ⟨b, q, none⟩ = some (.int .u8 (f q)) := by rw [cell_of h, tbl_get _ _ hq]
theorem TblAt.free {w b t f} (h : TblAt w b t f) (q : Nat) : w.frozen? ⟨b, q, none⟩ = false := free_of h
theorem TblAt.set {w b t f} (h : TblAt w b t f) (q : Nat) (hq : q < 256) (x : Int) : TblAt (w.setCell ⟨b, q, none⟩ (.int .u8 x)) b t (upd f q x) := by
  show _ = _
  rw [heap_set _ h, tbl_set _ _ _ hq]
theorem TblAt.ext {w b t f g} (h : TblAt w b t f) (e : ∀ q, f q = g q) : TblAt w b t g := by rw [← funext e]; exact h

def host1 (k q : Nat) : Int := if 97 ≤ q ∧ q < k then 3 else if 65 ≤ q ∧ q < k - 32 then 4 else 0
def host2 (k q : Nat) : Int := if 48 ≤ q ∧ q < k then 3 else host1 123 q
def hostT (q : Nat) : Int := if q = 46 then 1 else if q = 45 then 2 else host2 58 q
theorem Tryz.hostZ : (Tryz.prog.info? 243).map (fun i => (i.zero, i.size)) = some (some (.agg (Array.replicate 256 (.int .u8 0))), 256) := by kernel_rfl
set_option maxHeartbeats 1000000 in
theorem host_build (w : World) : Calls Tryz.prog 171 #[] w fun e w' => e = .returned (.agg (tbl hostT)) ∧ Below w.heap.size w w' := by
  obtain ⟨hz, hs⟩ := zero_of_info Tryz.hostZ
  go_enter Tryz.func171, Tryz.ntmps171
  go_wp2_with fail
  go_loopg [1] 26 (fun r s1 wr => ∃ k : Nat, 97 ≤ k ∧ k ≤ 123 ∧ r = 123 - k ∧ s1 = .int .i32 k ∧ TblAt wr w.heap.size 243 (host1 k) ∧ Below w.heap.size w wr)
  case atStart =>
    refine ⟨97, by omega, by omega, rfl, rfl, ?_, (Below.refl _ w).alloc (Nat.le_refl _) _⟩
    refine TblAt.ext (f := fun _ => 0) ?_ (fun q => by
      simp only [host1]
      rw [if_neg (by omega), if_neg (by omega)])
    show _ = _
    rw [heap_new, tbl_zero]
  case round =>
    obtain ⟨k, h1, h2, rfl, rfl, ht, hb⟩ := hrel
    by_cases hlt : k ≤ 122
    · have hlt2 : (k : Int) ≤ 122 := by omega
      have g1 := ht.get k (by omega)
      have g2 := (ht.set k (by omega) 3).get (k - 32) (by omega)
      have f1 := ht.free k
      have f2 := (ht.set k (by omega) 3).free (k - 32)
      have hq := (ht.set k (by omega) 3).set (k - 32) (by omega) 4
      have HQ := Lib.hid hq; clear hq
      have HT := Lib.hid ht; clear ht
      have e1 : (k : Int) - 97 + 65 = ((k - 32 : Nat) : Int) := by omega
      go_wp2_with fail
      go_roundg (123 - (k + 1))
      case measure => omega
      case rel =>
        refine ⟨k + 1, by omega, by omega, rfl, by go_num, HQ.out.ext (fun q => ?_), (hb.setCell (Nat.le_refl _) _).setCell (Nat.le_refl _) _⟩
        simp only [upd, host1]
        repeat' split
        all_goals first | rfl | omega
    · obtain rfl : k = 123 := by omega
      have HT := Lib.hid ht; clear ht
      go_wp2_with fail
      go_loopg [2] 10 (fun r s2 wr => ∃ k : Nat, 48 ≤ k ∧ k ≤ 58 ∧ r = 58 - k ∧ s2 = .int .i32 k ∧ TblAt wr w.heap.size 243 (host2 k) ∧ Below w.heap.size w wr)
      case atStart =>
        exact ⟨48, by omega, by omega, rfl, rfl, HT.out.ext (fun q => by
          simp only [host2]
          rw [if_neg (by omega)]), hb⟩
      case round =>
        clear hb HT
        obtain ⟨k, h1, h2, rfl, rfl, ht, hb⟩ := hrel
        by_cases hlt : k ≤ 57
        · have hlt2 : (k : Int) ≤ 57 := by omega
          have g1 := ht.get k (by omega)
          have f1 := ht.free k
          have hq := ht.set k (by omega) 3
          have HQ := Lib.hid hq; clear hq
          have HT := Lib.hid ht; clear ht
          go_wp2_with fail
          go_roundg (58 - (k + 1))
          case measure => omega
          case rel =>
            refine ⟨k + 1, by omega, by omega, rfl, by go_num, HQ.out.ext (fun q => ?_), hb.setCell (Nat.le_refl _) _⟩
            simp only [upd, host2]
            repeat' split
            all_goals first | rfl | omega
        · obtain rfl : k = 58 := by omega
          have g1 := ht.get 45 (by omega)
          have g2 := (ht.set 45 (by omega) 2).get 46 (by omega)
          have f1 := ht.free 45
          have f2 := (ht.set 45 (by omega) 2).free 46
          have hq := ((ht.set 45 (by omega) 2).set 46 (by omega) 1).ext (g := hostT) (fun q => rfl)
          have HQ := Lib.hid hq; clear hq
          have HT := Lib.hid ht; clear ht
          go_upto_region 10 with fail
          obtain ⟨wz, hwz⟩ : ∃ wz : World, wz = (wr.setCell ⟨w.heap.size, 45, none⟩ (.int .u8 2)).setCell ⟨w.heap.size, 46, none⟩ (.int .u8 1) := ⟨_, rfl⟩
          have hbz : Below w.heap.size w wz := by rw [hwz]; exact (hb.setCell (Nat.le_refl _) _).setCell (Nat.le_refl _) _
          have htz : TblAt wz w.heap.size 243 hostT := by rw [hwz]; exact HQ.out
          rw [← hwz]
          have hi : (Tryz.prog.info? 243).map (·.size) = some (tbl hostT).size := by rw [tbl_size]; exact hs
          refine wp_region_lit ?_
          refine wpList_load_row rfl 243 _ rfl w.heap.size rfl _ _ _ _ htz Tryz.underlying243 rfl hi ?_
          refine wpList_store_row rfl 243 _ _ rfl w.heap.size _ rfl rfl _ _ htz hi rfl (tbl_one _) ?_
          have hbz2 : Below w.heap.size w (wz.setRow w.heap.size (tbl hostT)) := below_setRow hbz (Nat.le_refl _) _
          have htz2 : TblAt (wz.setRow w.heap.size (tbl hostT)) w.heap.size 243 hostT := setRow_heap _ _ _ _ _ _ htz
          clear hwz htz hbz
          go_wp2_with fail
          refine bodyPost_ret (results_cell_row rfl _ _ _ _ _ _ _ rfl htz2 Tryz.underlying243 rfl hi) rfl ?_
          exact ⟨rfl, hbz2⟩

def plainGo : List UInt8 → Int → Int → Option Int
  | [], _, last => some last
  | c :: cs, long, last =>
    if hostT c.toNat = 3 ∨ (hostT c.toNat = 2 ∧ last ≠ 1) then (if 20 < long + 1 then none else plainGo cs (long + 1) (hostT c.toNat))
    else if hostT c.toNat = 1 ∧ last = 3 then plainGo cs 0 (hostT c.toNat) else none
def plainB (s : ByteArray) : Bool := plainGo s.data.toList 0 1 == some 3 && decide (s.size ≤ 60)
def plainS (s : ByteArray) : Int := if plainB s then 0 else 60
theorem plainS_no {s : ByteArray} (h : plainGo s.data.toList 0 1 = none) : plainS s = 60 := by simp [plainS, plainB, h]
theorem plainS_yes {s : ByteArray} (h : plainGo s.data.toList 0 1 = some 3) (h2 : s.size ≤ 60) : plainS s = 0 := by simp [plainS, plainB, h, h2]
theorem plainS_long {s : ByteArray} (h2 : 60 < s.size) : plainS s = 60 := by simp [plainS, plainB]; omega
theorem plainS_end {s : ByteArray} {l : Int} (h : plainGo s.data.toList 0 1 = some l) (h2 : ¬ l = 3) : plainS s = 60 := by simp [plainS, plainB, h, h2]
set_option maxHeartbeats 2000000 in
set_option maxRecDepth 20000 in
theorem host_Plain (s : ByteArray) (w : World) (hs0 : s.size ≤ 9223372036854775807) : Calls Tryz.prog 113 #[.string s] w fun e w' => e = .returned (.int .i64 (plainS s)) ∧ Below w.heap.size w w' := by
  obtain ⟨hz, hs⟩ := zero_of_info Tryz.hostZ
  obtain ⟨Z, hZ⟩ : ∃ Z : Array Value, Z = Array.replicate 256 (.int .u8 0) := ⟨_, rfl⟩
  rw [← hZ] at hz
  have hZs : Z.size = 256 := by rw [hZ]; simp
  clear hZ
  go_enter Tryz.func113, Tryz.ntmps113
  go_wp2_with fail
  refine (host_build w).mono ?_
  rintro e w1 ⟨rfl, hb1⟩
  obtain ⟨T, hT⟩ : ∃ T, T = tbl hostT := ⟨_, rfl⟩
  rw [← hT]
  have hTs : T.size = 256 := by rw [hT, tbl_size]
  dsimp only
  apply_assumption
  refine wpList_runTo rfl (some 3) rfl (.pointer (some ⟨w1.heap.size, 0, none⟩)) (w1.alloc (.cells Z 243)) (by simp [execOp, go_sem, hz]) ?_
  refine wpList_store_row rfl 243 _ _ rfl w1.heap.size T rfl rfl 243 Z (heap_new w1 _) (by rw [hTs]; exact hs) (by rw [hZs, hTs]) (by rw [hT]; exact tbl_one _) ?_
  rw [World.setRow_alloc_new]
  have htb : TblAt (w1.alloc (.cells T 243)) w1.heap.size 243 hostT := by show _ = _; rw [hT]; exact heap_new w1 _
  have hb2 : Below w.heap.size w (w1.alloc (.cells T 243)) := hb1.alloc hb1.size _
  obtain ⟨w2, hw2⟩ : ∃ w2 : World, w2 = w1.alloc (.cells T 243) := ⟨_, rfl⟩
  rw [← hw2] at htb hb2 ⊢
  clear hw2 hTs hT hZs hz hs
  have hcv := run_bytes_of_string (P := Tryz.prog) w2 9 153 5 s Tryz.underlying9 Tryz.underlying153 Tryz.underlying5
  generalize grownCap w2 s.size 0 5 = cap at hcv
  obtain ⟨w3, hw3⟩ : ∃ w3 : World, w3 = w2.drew.alloc (.cells (bytesRow s cap) 5 ((bytesRow s cap).size, (bytesRow s cap).size + 1)) := ⟨_, rfl⟩
  rw [← hw3] at hcv
  have hb3 : Below w2.heap.size w2 w3 := by rw [hw3]; exact (Below.refl _ w2).drew.alloc (Nat.le_refl _) _
  have hch : ∀ j (hj : j < s.data.size), w3.cell? ⟨w2.heap.size, j, none⟩ = some (.int .u8 (s.data[j].toNat : Int)) := fun j hj => by
    rw [hw3]
    have hx := cell_of (o := j) (heap_new w2.drew (.cells (bytesRow s cap) 5 ((bytesRow s cap).size, (bytesRow s cap).size + 1)))
    exact hx.trans (bytesRow_at s cap j hj)
  have htb3 : TblAt w3 w1.heap.size 243 hostT := (hb3.block _ (Array.getElem?_eq_some_iff.1 htb).1).trans htb
  have hb4 := hb2.trans (hb3.mono hb2.size)
  have HCH := Lib.hid hch; clear hch
  clear hw3 hb3 htb hb1 hb2
  go_wp2_with fail
  clear hcv
  go_loopg [4, 5, 13] s.size (fun r s4 s5 s13 wr => ∃ (j : Nat) (long last : Int), j ≤ s.size ∧ r = s.size - j ∧ s4 = .int .i64 long ∧ s5 = .int .u8 last ∧ s13 = .int .i64 j ∧ w3 = wr ∧ 0 ≤ long ∧ long ≤ 20 ∧ plainGo (s.data.toList.drop j) long last = plainGo s.data.toList 0 1)
  case atStart => exact ⟨0, 0, 1, by omega, rfl, rfl, rfl, rfl, rfl, by omega, by omega, rfl⟩
  case round =>
    obtain ⟨j, long, last, hj, rfl, rfl, rfl, rfl, rfl, l0, l20, hp⟩ := hrel
    by_cases hlt : j < s.size
    · have hlt2 : (j : Int) < s.size := by omega
      have hch := HCH.out j hlt
      have hdr : s.data.toList.drop j = s.data[j]'hlt :: s.data.toList.drop (j + 1) := by
        rw [List.drop_eq_getElem_cons (by simpa using hlt)]; simp
      rw [hdr] at hp
      obtain ⟨c, hc⟩ : ∃ c : UInt8, c = s.data[j]'hlt := ⟨_, rfl⟩
      rw [← hc] at hch hp
      have hc256 := c.toNat_lt
      have hg := htb3.get c.toNat (by omega)
      obtain ⟨K, hK⟩ : ∃ K : Int, K = hostT c.toNat := ⟨_, rfl⟩
      rw [← hK] at hg
      rw [plainGo, ← hK] at hp
      have HP := Lib.hid hp; clear hp hdr hc hK
      have hc2 : (c.toNat : Int) < 256 := by omega
      by_cases k3 : K = 3
      · subst k3
        by_cases hl : long = 20
        · subst hl
          go_wp2
          go_ret
          have hp := HP.out
          rw [if_pos (by first | omega | exact .inr ⟨trivial, l1⟩ | simp | (simp; omega)), if_pos (by first | omega | exact .inr ⟨trivial, l1⟩ | simp | (simp; omega))] at hp
          exact ⟨by rw [plainS_no hp.symm]; rfl, hb4⟩
        · have hl2 : ¬ 20 < long + 1 := by omega
          go_wp2
          go_roundg (s.size - (j + 1))
          case measure => omega
          case rel =>
            have hp := HP.out
            rw [if_pos (by first | omega | exact .inr ⟨trivial, l1⟩ | simp | (simp; omega)), if_neg (by first | omega | exact .inr ⟨trivial, l1⟩ | simp | (simp; omega))] at hp
            exact ⟨j + 1, long + 1, 3, by omega, rfl, by go_num, rfl, by go_num, rfl, by omega, by omega, hp⟩
      · have b3 : (K == 3) = false := by simp [k3]
        by_cases k2 : K = 2
        · subst k2
          by_cases l1 : last = 1
          · subst l1
            go_wp2
            go_ret
            have hp := HP.out
            rw [if_neg (by first | omega | exact .inr ⟨trivial, l1⟩ | simp | (simp; omega)), if_neg (by first | omega | exact .inr ⟨trivial, l1⟩ | simp | (simp; omega))] at hp
            exact ⟨by rw [plainS_no hp.symm]; rfl, hb4⟩
          · have b1 : (last == 1) = false := by simp [l1]
            by_cases hl : long = 20
            · subst hl
              go_wp2
              go_ret
              have hp := HP.out
              rw [if_pos (by first | omega | exact .inr ⟨trivial, l1⟩ | simp | (simp; omega)), if_pos (by first | omega | exact .inr ⟨trivial, l1⟩ | simp | (simp; omega))] at hp
              exact ⟨by rw [plainS_no hp.symm]; rfl, hb4⟩
            · have hl2 : ¬ 20 < long + 1 := by omega
              go_wp2
              go_roundg (s.size - (j + 1))
              case measure => omega
              case rel =>
                have hp := HP.out
                rw [if_pos (by first | omega | exact .inr ⟨trivial, l1⟩ | simp | (simp; omega)), if_neg (by first | omega | exact .inr ⟨trivial, l1⟩ | simp | (simp; omega))] at hp
                exact ⟨j + 1, long + 1, 2, by omega, rfl, by go_num, rfl, by go_num, rfl, by omega, by omega, hp⟩
        · have b2 : (K == 2) = false := by simp [k2]
          by_cases k1 : K = 1
          · subst k1
            by_cases l3 : last = 3
            · subst l3
              go_wp2
              go_roundg (s.size - (j + 1))
              case measure => omega
              case rel =>
                have hp := HP.out
                rw [if_neg (by first | omega | exact .inr ⟨trivial, l1⟩ | simp | (simp; omega)), if_pos (by first | omega | exact .inr ⟨trivial, l1⟩ | simp | (simp; omega))] at hp
                exact ⟨j + 1, 0, 1, by omega, rfl, rfl, rfl, by go_num, rfl, by omega, by omega, hp⟩
            · have b4 : (last == 3) = false := by simp [l3]
              go_wp2
              go_ret
              have hp := HP.out
              rw [if_neg (by first | omega | exact .inr ⟨trivial, l1⟩ | simp | (simp; omega)), if_neg (by first | omega | exact .inr ⟨trivial, l1⟩ | simp | (simp; omega))] at hp
              exact ⟨by rw [plainS_no hp.symm]; rfl, hb4⟩
          · have b4 : (K == 1) = false := by simp [k1]
            go_wp2
            go_ret
            have hp := HP.out
            rw [if_neg (by first | omega | exact .inr ⟨trivial, l1⟩ | simp | (simp; omega)), if_neg (by first | omega | exact .inr ⟨trivial, l1⟩ | simp | (simp; omega))] at hp
            exact ⟨by rw [plainS_no hp.symm]; rfl, hb4⟩
    · obtain rfl : s.size = j := by omega
      have hlt2 : ¬ (s.size : Int) < s.size := by omega
      rw [show s.data.toList.drop s.size = [] from List.drop_eq_nil_of_le (by rw [Array.length_toList]; exact Nat.le_refl _), plainGo] at hp
      have HP := Lib.hid hp; clear hp
      by_cases l3 : last = 3
      · subst l3
        by_cases h60 : s.size ≤ 60
        · have h61 : ¬ (60 : Int) < s.size := by omega
          go_wp2
          go_ret
          have hp := HP.out
          exact ⟨by rw [plainS_yes hp.symm h60]; rfl, hb4⟩
        · have h61 : (60 : Int) < s.size := by omega
          go_wp2
          go_ret
          have hp := HP.out
          exact ⟨by rw [plainS_long (by omega)]; rfl, hb4⟩
      · have b4 : (last == 3) = false := by simp [l3]
        go_wp2
        go_ret
        have hp := HP.out
        exact ⟨by rw [plainS_end hp.symm l3]; rfl, hb4⟩

def patternS (s : ByteArray) : Int := if 60 < s.size then 60 else plainS ⟨(Lib.trimPrefix s.data.toList [42, 46]).toArray⟩
theorem trim_size {s : ByteArray} {l : List UInt8} (hs : s.size ≤ 9223372036854775807) : (⟨(Lib.trimPrefix s.data.toList l).toArray⟩ : ByteArray).size ≤ 9223372036854775807 := by
  show (Lib.trimPrefix s.data.toList l).toArray.size ≤ _
  unfold Lib.trimPrefix
  split
  · simp; have : s.data.size = s.size := rfl; omega
  · simp; exact hs
theorem host_Pattern (s : ByteArray) (w : World) (hs : s.size ≤ 9223372036854775807) : Calls Tryz.prog 129 #[.string s] w fun e w' => e = .returned (.int .i64 (patternS s)) ∧ Below w.heap.size w w' := by
  by_cases h : 60 < s.size
  · have h2 : (60 : Int) < s.size := by omega
    go_enter Tryz.func129, Tryz.ntmps129
    go_wp2
    go_ret
    exact ⟨by rw [patternS, if_pos h]; rfl, Below.refl _ _⟩
  · have h2 : ¬ (60 : Int) < s.size := by omega
    go_enter Tryz.func129, Tryz.ntmps129
    go_wp2_with fail
    refine (Tryz.strings_TrimPrefix s ⟨#[42, 46]⟩ w).mono ?_; rintro e w' ⟨rfl, rfl⟩
    go_wp2_with fail
    refine (host_Plain _ _ (trim_size hs)).mono ?_; rintro e w' ⟨rfl, hb⟩
    go_wp2_with fail
    go_ret
    exact ⟨by rw [patternS, if_neg h]; rfl, hb⟩
end Go.Proofs.YteblahoijolegaaGreatDoor
end
section
set_option linter.all false
namespace Go.Proofs.YteblahoijolegaaGreatDoor
open Go.RowKit
open Go.Great (wpList_runTo)

def headT (q : Nat) : Int := if (97 ≤ q ∧ q ≤ 122) ∨ (48 ≤ q ∧ q ≤ 57) ∨ q = 45 ∨ q = 95 then q else if 65 ≤ q ∧ q ≤ 90 then q + 32 else 0
def head1 (k q : Nat) : Int := if q < k then headT q else 0
theorem Tryz.headZ : (Tryz.prog.info? 319).map (fun i => (i.zero, i.size)) = some (some (.agg (Array.replicate 256 (.int .u8 0))), 256) := by kernel_rfl
theorem wrap_u8 (k : Nat) (h : k < 256) : IntKind.u8.wrap (k : Int) = k := by
  simp only [IntKind.wrap_u8]; omega
theorem tbl_lt {f g : Nat → Int} (h : ∀ q, q < 256 → f q = g q) : tbl f = tbl g := by
  apply Array.ext_getElem?
  intro i
  by_cases hi : i < 256
  · rw [tbl_get _ _ hi, tbl_get _ _ hi, h i hi]
  · rw [Array.getElem?_eq_none (by rw [tbl_size]; omega), Array.getElem?_eq_none (by rw [tbl_size]; omega)]
set_option maxHeartbeats 1000000 in
set_option maxRecDepth 20000 in
theorem head_build (w : World) : Calls Tryz.prog 265 #[] w fun e w' => e = .returned (.agg (tbl headT)) ∧ Below w.heap.size w w' := by
  obtain ⟨hz, hs⟩ := zero_of_info Tryz.headZ
  go_enter Tryz.func265, Tryz.ntmps265
  go_wp2_with fail
  go_loopg [3] 256 (fun r s3 wr => ∃ k : Nat, k ≤ 256 ∧ r = 256 - k ∧ s3 = .int .i64 k ∧ TblAt wr w.heap.size 319 (head1 k) ∧ Below w.heap.size w wr)
  case atStart =>
    refine ⟨0, by omega, rfl, rfl, ?_, (Below.refl _ w).alloc (Nat.le_refl _) _⟩
    refine TblAt.ext (f := fun _ => 0) ?_ (fun q => by
      simp only [head1]
      rw [if_neg (by omega)])
    show _ = _
    rw [heap_new, tbl_zero]
  case round =>
    obtain ⟨k, h2, rfl, rfl, ht, hb⟩ := hrel
    by_cases hlt : k < 256
    · have hlt2 : (k : Int) < 256 := by omega
      have g1 := ht.get k (by omega)
      have f1 := ht.free k
      have hw := wrap_u8 k hlt
      have HQ := Lib.hid (show headT k ≠ 0 → TblAt (wr.setCell ⟨w.heap.size, k, none⟩ (.int .u8 (headT k))) w.heap.size 319 (head1 (k + 1)) from fun _ => (ht.set k (by omega) _).ext (fun q => by
        simp only [upd, head1]
        by_cases e : q = k
        · subst e; rw [if_pos rfl, if_pos (by omega)]
        · rw [if_neg e]
          by_cases l : q < k
          · rw [if_pos l, if_pos (by omega)]
          · rw [if_neg l, if_neg (by omega)]))
      have HR := Lib.hid (show headT k = 0 → TblAt wr w.heap.size 319 (head1 (k + 1)) from fun h0 => ht.ext (fun q => by
        simp only [head1]
        by_cases e : q = k
        · subst e; rw [if_neg (by omega), if_pos (by omega), h0]
        · by_cases l : q < k
          · rw [if_pos l, if_pos (by omega)]
          · rw [if_neg l, if_neg (by omega)]))
      clear ht
      go_wp2
      all_goals
        go_roundg (256 - (k + 1))
        case measure => omega
        case rel =>
          try simp only [beq_eq_false_iff_ne, ne_eq, beq_iff_eq] at *
          first
            | (have hv : headT k = k := by
                 rw [headT, if_pos (by omega)]
               have q := HQ.out (by rw [hv]; omega)
               rw [hv] at q
               exact ⟨k + 1, by omega, rfl, rfl, q, hb.setCell (Nat.le_refl _) _⟩)
            | (have hv : headT k = k + 97 - 65 := by
                 rw [headT, if_neg (by omega), if_pos (by omega)]; omega
               have q := HQ.out (by rw [hv]; omega)
               rw [hv] at q
               exact ⟨k + 1, by omega, rfl, rfl, q, hb.setCell (Nat.le_refl _) _⟩)
            | (have hv : headT k = 0 := by
                 rw [headT, if_neg (by omega), if_neg (by omega)]
               exact ⟨k + 1, by omega, rfl, rfl, HR.out hv, hb⟩)
    · obtain rfl : k = 256 := by omega
      have hq := ht.ext (g := fun q => head1 256 q) (fun q => rfl)
      have htz : wr.heap[w.heap.size]? = some (.cells (tbl headT) 319) := by
        have := ht; rw [TblAt, tbl_lt (f := head1 256) (g := headT) (fun q h => by simp only [head1]; rw [if_pos h])] at this; exact this
      have HT := Lib.hid htz; clear htz hq ht
      go_upto_region 13 with fail
      have htz := HT.out
      have hi : (Tryz.prog.info? 319).map (·.size) = some (tbl headT).size := by rw [tbl_size]; exact hs
      refine wp_region_lit ?_
      refine wpList_load_row rfl 319 _ rfl w.heap.size rfl _ _ _ _ htz Tryz.underlying319 rfl hi ?_
      refine wpList_store_row rfl 319 _ _ rfl w.heap.size _ rfl rfl _ _ htz hi rfl (tbl_one _) ?_
      have hbz2 : Below w.heap.size w (wr.setRow w.heap.size (tbl headT)) := below_setRow hb (Nat.le_refl _) _
      have htz2 : TblAt (wr.setRow w.heap.size (tbl headT)) w.heap.size 319 headT := setRow_heap _ _ _ _ _ _ htz
      clear HT htz hb
      go_wp2_with fail
      refine bodyPost_ret (results_cell_row rfl _ _ _ _ _ _ _ rfl htz2 Tryz.underlying319 rfl hi) rfl ?_
      exact ⟨rfl, hbz2⟩
end Go.Proofs.YteblahoijolegaaGreatDoor
end
