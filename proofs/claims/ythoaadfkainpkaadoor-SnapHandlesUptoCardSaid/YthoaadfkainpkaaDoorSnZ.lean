/- sure; SnapSums. -/
import Derived.Test.YthoaadfkainpkaaDoorSnY
namespace Go.Proofs.YthoaadfkainpkaaDoor
open Go.RowKit
set_option linter.unusedVariables false
variable {w : World} {k gT gL gN gF gB gM gP gQ gR : Nat}

/-- The two tables that the calls read. -/
structure Tabs (w : World) : Prop where
  pow : Lib.TabIs Tryd.prog w "internal/strconv.uint64pow10" .u64 Lib.pow10Tab
  tz : Lib.TabIs Tryd.prog w "math/bits.deBruijn64tab" .u8 bruijn
theorem Tabs.below {w w' : World} (h : Tabs w) (hb : Below w.heap.size w w') : Tabs w' := ⟨Lib.tabBelow_of_tabIs h.pow w' hb, Lib.tabBelow_of_tabIs h.tz w' hb⟩

theorem text0_head : ∃ r, 0 < r.length ∧ text0 = [116, 105, 116, 104, 101, 32, 49, 10] ++ r := by
  have h : lineL sTithe [1] = [116, 105, 116, 104, 101, 32, 49, 10] := by decide +kernel
  refine ⟨?_, ?_, ?_⟩
  rotate_left
  rotate_left
  · unfold text0 ahead0
    rw [h]
    simp only [List.append_assoc]
    rfl
  · simp [lineL]
    omega
theorem take8 (r : List UInt8) : (⟨(116 :: 105 :: 116 :: 104 :: 101 :: 32 :: 49 :: 10 :: r).toArray⟩ : ByteArray).extract 0 8 = ⟨#[116, 105, 116, 104, 101, 32, 49, 10]⟩ := by
  apply ByteArray.ext
  rw [ByteArray.data_extract]
  simp
theorem sum_a : sumI [97] = 3826002220 := by decide +kernel

theorem alike0 (h : KAt w k gT gL gN gF gB gM gP gQ gR) (ht : Tabs w) : Calls Tryd.prog 12 #[.pointer (some ⟨k, 0, none⟩), .pointer (some ⟨k, 0, none⟩)] w fun e w' => e = .returned (.bool true) ∧ Below w.heap.size w w' := by
  have HK := Lib.hid h
  have HT := Lib.hid ht
  clear h ht
  go_enter Tryd.func12, Tryd.ntmps12
  go_wp2_with fail
  refine (save0 HK.out HT.out.pow HT.out.tz).mono ?_
  rintro e w1 ⟨rfl, h1⟩
  have HT1 := HT.out.below h1
  have HT1 := Lib.hid HT1
  go_wp2_with fail
  refine (save0 (HK.out.below h1) HT1.out.pow HT1.out.tz).mono ?_
  rintro e w2 ⟨rfl, h2⟩
  go_wp2
  go_ret
  exact ⟨by simp, h1.trans (h2.mono h1.size)⟩

theorem Kern0.at {B : Nat} (h : Kern0 w B k) : ∃ gT gL gN gF gB gM gP gQ gR, KAt w k gT gL gN gF gB gM gP gQ gR := by
  obtain ⟨gT, gL, gN, gF, gB, gM, gP, gQ, gR, _, _, _, _, _, _, _, _, _, _, a1, a2, a3, a4, a5, a6, a7⟩ := h.ex
  exact ⟨gT, gL, gN, gF, gB, gM, gP, gQ, gR, ⟨a1, a2, a3, a4, a5, a6, a7⟩⟩

theorem sure0 (w : World) (ht : Tabs w) : Calls Tryd.prog 7 #[] w fun e w' => e = .returned (.bool true) ∧ Below w.heap.size w w' := by
  have HT := Lib.hid ht
  clear ht
  obtain ⟨r, hrl, hr⟩ := text0_head
  go_enter Tryd.func7, Tryd.ntmps7
  go_wp2_with fail
  refine (kernelNew _).mono ?_
  rintro e w1 ⟨k, rfl, hk, h1⟩
  obtain ⟨gT, gL, gN, gF, gB, gM, gP, gQ, gR, hK⟩ := hk.at
  have HK := Lib.hid hK
  have HT1 := Lib.hid (HT.out.below h1)
  clear hK hk
  go_wp2_with fail
  refine (save0 HK.out HT1.out.pow HT1.out.tz).mono ?_
  rintro e w2 ⟨rfl, h2⟩
  have HK2 := Lib.hid (HK.out.below h2)
  have HT2 := Lib.hid (HT1.out.below h2)
  rw [hr]
  have HR := Lib.hid hr
  clear hr
  go_wp2_with fail
  refine (sumOf ⟨#[97]⟩ (by decide) _).mono ?_
  have hs : sumI (⟨#[97]⟩ : ByteArray).data.toList = 3826002220 := sum_a
  rw [hs]
  rintro e w3 ⟨rfl, rfl⟩
  have hx8 := take8 r
  go_wp2_with fail
  refine (alike0 HK2.out HT2.out).mono ?_
  rintro e w4 ⟨rfl, h4⟩
  go_wp2
  go_ret
  exact ⟨rfl, h1.trans ((h2.trans (h4.mono h2.size)).mono h1.size)⟩

theorem snapSums (s : ByteArray) (hs : s.size ≤ 9223372036854775807) (w : World) (ht : Tabs w) : Calls Tryd.prog 3 #[.string s] w fun e w' => e = .returned (.bool true) ∧ Below w.heap.size w w' := by
  have HT := Lib.hid ht
  clear ht
  go_enter Tryd.func3, Tryd.ntmps3
  go_wp2_with (first
    | (go_at_call 5; refine (sumOf s hs _).mono ?_; rintro e w' ⟨rfl, rfl⟩)
    | (go_at_call 6; refine (sumRef s hs _).mono ?_; rintro e w' ⟨rfl, rfl⟩)
    | (go_at_call 7; refine (sure0 _ HT.out).mono ?_; rintro e w' ⟨rfl, hb⟩))
  go_ret
  exact ⟨rfl, hb⟩
end Go.Proofs.YthoaadfkainpkaaDoor
