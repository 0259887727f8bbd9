/- Eight digits of a sum: strconv.FormatUint at base 16, snap.hex. -/
import Derived.Test.YthoaadfkainpkaaDoorProg
import Derived.Test.YthoaadfkainpkaaDoorSnW
import Derived.Lib.LaidTab
import Derived.Lib.ItoaMem
import Derived.Lib.AppendIntMem
import Derived.Lib.UnsafeStr
import Derived.Laws.BitsAllLaws
import Derived.Test.YthoaadfkainpkaaDoorShelf
import Derived.WalkSpells
import Derived.WalkLawsBesides
namespace Go.Proofs.YthoaadfkainpkaaDoor
open Go.RowKit
set_option linter.unusedVariables false

def bruijn : List Int := [0, 1, 56, 2, 57, 49, 28, 3, 61, 58, 42, 50, 38, 29, 17, 4, 62, 47, 59, 36, 45, 43, 51, 22, 53, 39, 33, 30, 24, 18, 12, 5, 63, 55, 48, 27, 60, 41, 37, 16, 46, 35, 44, 21, 52, 32, 23, 11, 54, 26, 40, 15, 34, 20, 31, 10, 25, 14, 19, 9, 13, 8, 7, 6]

theorem pow2 (w : World) : Calls Tryd.prog 86 #[.int .i64 16] w fun e w' => e = .returned (.bool true) ∧ w' = w := by
  go_enter Tryd.func86, Tryd.ntmps86
  go_wp2
  go_ret
  exact ⟨by have e : bits BinOp.and IntKind.i64 16 15 = 0 := by decide +kernel
            rw [e]; rfl, rfl⟩

theorem bruijnName : Tryd.prog.globalNamed "math/bits.deBruijn64tab" = some 3 := by kernel_rfl

theorem tz64 (w : World) (h : Lib.TabIs Tryd.prog w "math/bits.deBruijn64tab" .u8 bruijn) : Calls Tryd.prog 89 #[.int .u64 16] w fun e w' => e = .returned (.int .i64 4) ∧ w' = w := by
  have c : w.cell? ⟨3, (IntKind.u64.wrap (bits BinOp.and IntKind.u64 16 (IntKind.u64.wrap (-16)) * 285870213051353865) / 288230376151711744).toNat, none⟩ = some (.int .u8 4) := by
    have e : (IntKind.u64.wrap (bits BinOp.and IntKind.u64 16 (IntKind.u64.wrap (-16)) * 285870213051353865) / 288230376151711744).toNat = 15 := by decide +kernel
    rw [e]
    exact h.cell bruijnName 15 (by decide)
  clear h
  go_enter Tryd.func89, Tryd.ntmps89
  go_wp2
  go_ret
  exact ⟨rfl, rfl⟩

theorem tz (w : World) (h : Lib.TabIs Tryd.prog w "math/bits.deBruijn64tab" .u8 bruijn) : Calls Tryd.prog 87 #[.int .u64 16] w fun e w' => e = .returned (.int .i64 4) ∧ w' = w := by
  go_enter Tryd.func87, Tryd.ntmps87
  go_wp2_with (go_at_call 89; refine (tz64 _ h).mono ?_; rintro e w' ⟨rfl, rfl⟩)
  go_ret
  exact ⟨rfl, rfl⟩

/-- The digit of a number below 16. -/
def hexDig (n : Nat) : UInt8 := if n < 10 then (48 + n).toUInt8 else (87 + n).toUInt8
/-- The digits of a number at base 16, at most f + 1 of them, ahead of acc. -/
def hexF : Nat → Nat → List UInt8 → List UInt8
  | 0, n, acc => hexDig n :: acc
  | f + 1, n, acc => if n < 16 then hexDig n :: acc else hexF f (n / 16) (hexDig (n % 16) :: acc)
theorem hexF_small {f n : Nat} {acc : List UInt8} (h : n < 16) : hexF f n acc = hexDig n :: acc := by
  cases f with
  | zero => rfl
  | succ f => simp [hexF, h]
theorem hexF_length : ∀ (f n : Nat) (acc : List UInt8), (hexF f n acc).length ≤ f + 1 + acc.length
  | 0, n, acc => by simp [hexF]; omega
  | f + 1, n, acc => by
    by_cases h : n < 16
    · simp [hexF, h]; omega
    · simp only [hexF, h, if_false]
      have := hexF_length f (n / 16) (hexDig (n % 16) :: acc)
      simp at this
      omega

def digits36 : ByteArray := ⟨#[48, 49, 50, 51, 52, 53, 54, 55, 56, 57, 97, 98, 99, 100, 101, 102, 103, 104, 105, 106, 107, 108, 109, 110, 111, 112, 113, 114, 115, 116, 117, 118, 119, 120, 121, 122]⟩

def bufCells (acc : List UInt8) : List Value := List.replicate (65 - acc.length) (.int .u8 0) ++ Lib.byteCells acc
theorem bufCells_length {acc : List UInt8} (h : acc.length ≤ 65) : (bufCells acc).length = 65 := by simp [bufCells, Lib.byteCells_length]; omega
theorem bufCells_set {acc : List UInt8} (h : acc.length < 65) (x : UInt8) : (bufCells acc).set (64 - acc.length) (.int .u8 (x.toNat : Int)) = bufCells (x :: acc) := by
  unfold bufCells
  have e : 65 - acc.length = (64 - acc.length) + 1 := by omega
  rw [e, List.replicate_succ', List.append_assoc, List.set_append_right _ _ (by simp)]
  simp [Lib.byteCells]

theorem zero65 : (Tryd.zeroCells175).toList = bufCells [] := by kernel_rfl
theorem and15 (n : Nat) (h : n < 18446744073709551616) : bits BinOp.and IntKind.u64 (n : Int) 15 = ((n % 16 : Nat) : Int) := by
  have e := u64_and_nat n 15 h (by decide)
  rw [show n &&& 15 = n % 16 from Nat.and_two_pow_sub_one_eq_mod n 4] at e
  exact e
theorem digitAt : ∀ n < 16, digits36.data[n]? = some (hexDig n) := by decide +kernel
theorem digitGet (n : Nat) (h : n < 16) {hn : n < digits36.size} : digits36[n] = hexDig n := by
  have := digitAt n h
  obtain ⟨_, h2⟩ := Array.getElem?_eq_some_iff.1 this
  exact h2

set_option maxHeartbeats 4000000 in
set_option maxRecDepth 100000 in
theorem format16 (u : Nat) (hu : u < 4294967296) (w : World) (h : Lib.TabIs Tryd.prog w "math/bits.deBruijn64tab" .u8 bruijn) :
    Calls Tryd.prog 77 #[.slice none 0 0, .int .u64 u, .int .i64 16, .bool false, .bool false] w fun e w' => e = .returned (.tuple #[.slice none 0 0, .string ⟨(hexF 7 u []).toArray⟩]) ∧ Below w.heap.size w w' := by
  go_enter Tryd.func77, Tryd.ntmps77
  go_wp2_with (first
    | (go_at_call 86; refine (pow2 _).mono ?_; rintro e w' ⟨rfl, rfl⟩)
    | (go_at_call 87; refine (tz _ (Lib.tabIs_alloc h _)).mono ?_; rintro e w' ⟨rfl, rfl⟩))
  have B0 : Blk (w.alloc (Obj.cells Tryd.zeroCells175 175)) w.heap.size 175 (bufCells []) := by
    have := Blk.newA w Tryd.zeroCells175 175
    rwa [zero65] at this
  go_loopw [1, 13] (fun v i wr => ∃ (f n j : Nat) (acc : List UInt8), f ≤ 7 ∧ acc.length = 7 - f ∧ j = 57 + f ∧ n < 16 ^ (f + 1) ∧ hexF f n acc = hexF 7 u [] ∧ v = .int .u64 n ∧ i = .int .i64 ((j : Int) + 1) ∧ Blk wr w.heap.size 175 (bufCells acc) ∧ Below w.heap.size w wr) (fun v _ _ => (intOf v).toNat)
  case atStart => exact ⟨7, u, 64, [], by omega, rfl, rfl, by omega, rfl, rfl, rfl, B0, (Below.refl _ _).alloc (Nat.le_refl _) _⟩
  case round =>
    obtain ⟨f, n, j, acc, hf, hacc, hj, hn, hd, rfl, rfl, hblk, hbel⟩ := hrel
    have c0 : wr.cell? ⟨w.heap.size, j, none⟩ = some (.int .u8 0) := hblk.at_ (by
      unfold bufCells
      rw [List.getElem?_append_left (by rw [List.length_replicate]; omega), List.getElem?_replicate, if_pos (by omega)])
    have f0 := hblk.frozen j
    have HB := Lib.hid hblk
    have HW := Lib.hid hbel
    have HD := Lib.hid hd
    clear hd hbel hblk B0
    have hj' : j ≤ 64 := by omega
    have HJ := Lib.hid hj
    have HL := Lib.hid hacc
    clear hj hacc
    have hn64 : n < 18446744073709551616 := Nat.lt_of_lt_of_le hn (Nat.le_trans (Nat.pow_le_pow_right (by decide) (by omega : f + 1 ≤ 8)) (by decide))
    by_cases e : n < 16
    · have hX : ∀ W : World, (Instr.index 9 (.string digits36) (.int .u64 (n : Int))).run Tryd.prog W = .ok (.int .u8 ((hexDig n).toNat : Int)) W := by
        intro W
        rw [run_index_string W 9 digits36 .u64 _ Tryd.underlying9, dif_pos ⟨by omega, by show (n : Int) < 36; omega⟩]
        have e1 : ((n : Int)).toNat = n := by omega
        simp only [e1]
        rw [digitGet n e]
      have hsl : ∀ W : World, (Instr.sliceAt 175 (.pointer (some ⟨w.heap.size, 0, none⟩)) (some (.int .i64 (j : Int))) none none).run Tryd.prog W = .ok (.slice (some ⟨w.heap.size, j, none⟩) (65 - j) (65 - j)) W := by
        intro W
        have hal : Tryd.prog.arrayLen 175 = 65 := by simp [Program.arrayLen, Tryd.underlying175]
        rw [run_sliceAt_array_l W 175 ⟨w.heap.size, 0, none⟩ (by simp [Program.arrayLen, Program.elem, Tryd.underlying175]) .i64 (j : Int) (by omega) (by rw [hal]; omega)]
        rw [hal]
        go_simp
        omega
      have hcv : (convert 37 9 (.slice (some ⟨w.heap.size, j, none⟩) (65 - j) (65 - j))).run Tryd.prog (wr.setCell ⟨w.heap.size, j, none⟩ (.int .u8 ((hexDig n).toNat : Int))) = .ok (.string ⟨(hexF 7 u []).toArray⟩) (wr.setCell ⟨w.heap.size, j, none⟩ (.int .u8 ((hexDig n).toNat : Int))) := by
        have hF : hexF 7 u [] = hexDig n :: acc := by rw [← HD.out, hexF_small e]
        rw [hF]
        have hL := HL.out
        have hJ := HJ.out
        have hlen : (hexDig n :: acc).length = 65 - j := by simp; omega
        have hB := HB.out.set_ j (.int .u8 ((hexDig n).toNat : Int))
        have hset := bufCells_set (acc := acc) (by omega) (hexDig n)
        rw [show 64 - acc.length = j by omega] at hset
        rw [hset] at hB
        rw [← hlen]
        refine run_convert_bytes_back (P := Tryd.prog) _ 37 9 5 ⟨w.heap.size, j, none⟩ _ (hexDig n :: acc) Tryd.underlying37 Tryd.underlying5 Tryd.underlying9 (fun i hi => ?_)
        rw [Lib.add_plain, hB.cell]
        unfold bufCells
        rw [List.getElem?_append_right (by simp; omega)]
        simp only [List.length_replicate]
        rw [show j + i - (65 - (hexDig n :: acc).length) = i by omega]
        unfold Lib.byteCells
        rw [List.getElem?_map, List.getElem?_eq_getElem hi]
        rfl
      unfold digits36 at hX
      go_wp2
      go_ret2
      exact ⟨rfl, Below.setCell HW.out (Nat.le_refl _) _⟩
    · have hX : ∀ W : World, (Instr.index 9 (.string digits36) (.int .u64 (bits BinOp.and IntKind.u64 (n : Int) 15))).run Tryd.prog W = .ok (.int .u8 ((hexDig (n % 16)).toNat : Int)) W := by
        intro W
        rw [run_index_string W 9 digits36 .u64 _ Tryd.underlying9, and15 n hn64, dif_pos ⟨by omega, by show ((n % 16 : Nat) : Int) < 36; omega⟩]
        have e1 : (((n % 16 : Nat) : Int)).toNat = n % 16 := by omega
        simp only [e1]
        rw [digitGet _ (Nat.mod_lt _ (by decide))]
      unfold digits36 at hX
      go_wp2
      go_roundw
      case rel =>
        have hL := HL.out
        have hJ := HJ.out
        have hD := HD.out
        have h1 : f ≠ 0 := by rintro rfl; simp at hn; omega
        obtain ⟨f', rfl⟩ : ∃ f', f = f' + 1 := ⟨f - 1, by omega⟩
        have hset := bufCells_set (acc := acc) (by omega) (hexDig (n % 16))
        rw [show 64 - acc.length = j by omega] at hset
        have hB := HB.out.set_ j (.int .u8 ((hexDig (n % 16)).toNat : Int))
        rw [hset] at hB
        refine ⟨f', n / 16, 57 + f', hexDig (n % 16) :: acc, by omega, by simp; omega, rfl, ?_, ?_, by simp, by congr 1; omega, hB, Below.setCell HW.out (Nat.le_refl _) _⟩
        · have : 16 ^ (f' + 1 + 1) = 16 ^ (f' + 1) * 16 := Nat.pow_succ ..
          omega
        · rw [← hD]; simp [hexF, e]
      case measure => simp [intOf]; omega

theorem bytes_app (a b : List UInt8) : (⟨a.toArray⟩ : ByteArray) ++ ⟨b.toArray⟩ = ⟨(a ++ b).toArray⟩ := by
  apply ByteArray.ext
  simp

/-- The eight digits of a sum. -/
def hexL (n : Nat) : List UInt8 := Lib.repeatL [48] (8 - (hexF 7 n []).length) ++ hexF 7 n []

theorem hexL_length (n : Nat) : (hexL n).length = 8 := by
  have := hexF_length 7 n []
  simp only [List.length_nil, Nat.add_zero] at this
  unfold hexL
  rw [List.length_append, Lib.repeatL_length]
  simp
  omega

set_option maxHeartbeats 2000000 in
theorem hexOf (u : Nat) (hu : u < 4294967296) (w : World) (h : Lib.TabIs Tryd.prog w "math/bits.deBruijn64tab" .u8 bruijn) :
    Calls Tryd.prog 26 #[.int .u32 u] w fun e w' => e = .returned (.string ⟨(hexL u).toArray⟩) ∧ Below w.heap.size w w' := by
  have hl : (hexF 7 u []).length ≤ 8 := hexF_length 7 u []
  have hin : Calls Tryd.prog 59 #[.int .u64 u, .int .i64 16] w fun e w' => e = .returned (.string ⟨(hexF 7 u []).toArray⟩) ∧ Below w.heap.size w w' := by
    go_enter Tryd.func59, Tryd.ntmps59
    go_wp2_with (go_at_call 77; refine (format16 u hu _ h).mono ?_; rintro e w' ⟨rfl, hb⟩)
    go_ret
    exact ⟨rfl, hb⟩
  have hout : Calls Tryd.prog 43 #[.int .u64 u, .int .i64 16] w fun e w' => e = .returned (.string ⟨(hexF 7 u []).toArray⟩) ∧ Below w.heap.size w w' := by
    go_enter Tryd.func43, Tryd.ntmps43
    go_wp2_with (go_at_call 59; refine hin.mono ?_; rintro e w' ⟨rfl, hb⟩)
    go_ret
    exact ⟨rfl, hb⟩
  go_enter Tryd.func26, Tryd.ntmps26
  go_wp2_with (go_at_call 43; refine hout.mono ?_)
  rintro e w1 ⟨rfl, hb⟩
  have HB := Lib.hid hb
  have hsz := hb.size
  clear hb
  have hs : ByteArray.size ⟨(hexF 7 u []).toArray⟩ = (hexF 7 u []).length := by simp [ByteArray.size]
  have hRep : Calls Tryd.prog 44 #[.string ⟨#[48]⟩, .int .i64 (8 - ((hexF 7 u []).length : Int))] w1 fun e w' => e = .returned (.string ⟨(Lib.repeatL [48] (8 - (hexF 7 u []).length)).toArray⟩) ∧ Below w1.heap.size w1 w' := by
    have := Tryd.strings_Repeat ⟨#[48]⟩ (8 - (hexF 7 u []).length) w1 (by omega) (by show 1 * (8 - (hexF 7 u []).length) ≤ _; omega)
    rwa [show ((8 - (hexF 7 u []).length : Nat) : Int) = 8 - ((hexF 7 u []).length : Int) by omega] at this
  go_wp2_with (go_at_call 44; refine hRep.mono ?_)
  rintro e w2 ⟨rfl, hb2⟩
  have hrl : (Lib.repeatL [48] (8 - (hexF 7 u []).length)).length ≤ 8 := by rw [Lib.repeatL_length]; simp
  go_wp2
  go_ret
  refine ⟨?_, HB.out.trans (hb2.mono hsz)⟩
  show Ending.returned (Value.string ((⟨_⟩ : ByteArray) ++ ⟨_⟩)) = _
  rw [bytes_app]
  rfl
end Go.Proofs.YthoaadfkainpkaaDoor
