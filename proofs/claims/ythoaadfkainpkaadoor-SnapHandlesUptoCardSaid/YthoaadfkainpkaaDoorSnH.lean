/- Package handle: what Make, parts, Valid, Kind, Slot and Gen answer. -/
import Derived.Test.YthoaadfkainpkaaDoorProg
import Derived.Test.YthoaadfkainpkaaDoorSnW
import Derived.WalkSpells
import Derived.WalkLawsBesides
import Derived.Laws.Bits128
namespace Go.Proofs.YthoaadfkainpkaaDoor
open Go.RowKit

/-- The handle of a kind, a slot and a generation; and back. -/
def hnd (k s g : Int) : Int := k * 1099511627776 + s * 1048576 + g
def hkind (h : Int) : Int := h / 1099511627776
def hslot (h : Int) : Int := h / 1048576 % 1048576
def hgen (h : Int) : Int := h % 1048576
/-- May these be? -/
def mayBe (k s g : Int) : Prop := 1 ≤ k ∧ k ≤ 3 ∧ 0 ≤ s ∧ s ≤ 65535 ∧ 1 ≤ g ∧ g ≤ 1023
instance (k s g : Int) : Decidable (mayBe k s g) := by unfold mayBe; infer_instance
def hvalid (h : Int) : Bool := decide (mayBe (hkind h) (hslot h) (hgen h))

theorem hkind_hnd {k s g : Int} (h : mayBe k s g) : hkind (hnd k s g) = k := by unfold mayBe at h; unfold hkind hnd; omega
theorem hslot_hnd {k s g : Int} (h : mayBe k s g) : hslot (hnd k s g) = s := by unfold mayBe at h; unfold hslot hnd; omega
theorem hgen_hnd {k s g : Int} (h : mayBe k s g) : hgen (hnd k s g) = g := by unfold mayBe at h; unfold hgen hnd; omega
theorem hvalid_hnd {k s g : Int} (h : mayBe k s g) : hvalid (hnd k s g) = true := by
  unfold hvalid
  rw [hkind_hnd h, hslot_hnd h, hgen_hnd h]
  exact decide_eq_true h
theorem hnd_of {h : Int} : hnd (hkind h) (hslot h) (hgen h) = h := by unfold hnd hkind hslot hgen; omega

theorem i64_and20 (n : Int) : bits .and .i64 n 1048575 = n % 1048576 := by
  show IntKind.i64.wrap ((BitVec.ofInt 64 n &&& BitVec.ofInt 64 1048575).toNat : Int) = _
  have e : (BitVec.ofInt 64 1048575).toNat = 2 ^ 20 - 1 := by decide
  rw [BitVec.toNat_and, e, Nat.and_two_pow_sub_one_eq_mod, IntKind.wrap_i64, BitVec.toNat_ofInt]
  omega
theorem wraps_i63 (n : Int) (h₀ : 0 ≤ n) (h₁ : n < 2 ^ 63) : IntKind.i64.wrap n = n := by rw [IntKind.wrap_i64]; omega
theorem or_hnd {k s g : Int} (h : mayBe k s g) : bits .or .i64 (bits .or .i64 (k * 1099511627776) (s * 1048576)) g = hnd k s g := by
  unfold mayBe at h
  rw [bits_join .i64 63 (by decide) wraps_i63 40 (k * 1099511627776) (s * 1048576) (by omega) (by omega) (by omega) (by omega) (by omega) (by omega),
    bits_join .i64 63 (by decide) wraps_i63 20 (k * 1099511627776 + s * 1048576) g (by omega) (by omega) (by omega) (by omega) (by omega) (by omega)]
  rfl

set_option maxHeartbeats 400000 in
theorem make_ok (k s g : Int) (w : World) (h : mayBe k s g) : Calls Tryd.prog 46 #[.int .i64 k, .int .i64 s, .int .i64 g] w fun e w' => e = .returned (.tuple #[.int .i64 (hnd k s g), .nilIface]) ∧ w = w' := by
  have ho := or_hnd h
  unfold mayBe at h
  have HO := Lib.hid ho
  clear ho
  obtain ⟨h1, h2, h3, h4, h5, h6⟩ := h
  go_enter Tryd.func46, Tryd.ntmps46
  go_wp2
  go_ret2
  exact ⟨by rw [← HO.out]; rfl, rfl⟩

theorem make_no (k s g : Int) (w : World) (h : ¬ mayBe k s g) : Calls Tryd.prog 46 #[.int .i64 k, .int .i64 s, .int .i64 g] w fun e w' => e = .returned (.tuple #[.int .i64 0, .iface 92 (.int .i64 1)]) ∧ w = w' := by
  unfold mayBe at h
  have H : k < 1 ∨ 3 < k ∨ s < 0 ∨ 65535 < s ∨ g < 1 ∨ 1023 < g := by omega
  clear h
  go_enter Tryd.func46, Tryd.ntmps46
  go_wp2
  all_goals (go_ret2; exact ⟨rfl, rfl⟩)

set_option maxHeartbeats 400000 in
theorem parts_any (h : Int) (w : World) : Calls Tryd.prog 30 #[.int .i64 h] w fun e w' => e = .returned (.tuple #[.int .i64 (hkind h), .int .i64 (hslot h), .int .i64 (hgen h)]) ∧ w = w' := by
  go_enter Tryd.func30, Tryd.ntmps30
  go_wp2
  go_ret3
  refine ⟨?_, rfl⟩
  unfold hkind hslot hgen
  rw [i64_and20, i64_and20]
  rfl

set_option maxHeartbeats 400000 in
theorem valid_any (h : Int) (w : World) : Calls Tryd.prog 29 #[.int .i64 h] w fun e w' => e = .returned (.bool (hvalid h)) ∧ w = w' := by
  by_cases hm : mayBe (hkind h) (hslot h) (hgen h)
  · have hv : hvalid h = true := decide_eq_true hm
    rw [hv]
    clear hv
    go_enter Tryd.func29, Tryd.ntmps29
    go_wp2_with (first | (go_at_call 30; refine (parts_any _ _).mono ?_; rintro e w' ⟨rfl, rfl⟩) | (go_at_call 46; refine (make_ok _ _ _ _ hm).mono ?_; rintro e w' ⟨rfl, rfl⟩))
    go_ret
    exact ⟨rfl, rfl⟩
  · have hv : hvalid h = false := decide_eq_false hm
    rw [hv]
    clear hv
    go_enter Tryd.func29, Tryd.ntmps29
    go_wp2_with (first | (go_at_call 30; refine (parts_any _ _).mono ?_; rintro e w' ⟨rfl, rfl⟩) | (go_at_call 46; refine (make_no _ _ _ _ hm).mono ?_; rintro e w' ⟨rfl, rfl⟩))
    go_ret
    exact ⟨rfl, rfl⟩
set_option maxHeartbeats 400000 in
theorem kind_ok (h : Int) (w : World) (hv : hvalid h = true) : Calls Tryd.prog 67 #[.int .i64 h] w fun e w' => e = .returned (.int .i64 (hkind h)) ∧ w = w' := by
  go_enter Tryd.func67, Tryd.ntmps67
  go_wp2_with (first | (go_at_call 30; refine (parts_any _ _).mono ?_; rintro e w' ⟨rfl, rfl⟩) | (go_at_call 29; refine (valid_any _ _).mono ?_; rintro e w' ⟨rfl, rfl⟩))
  go_ret
  exact ⟨rfl, rfl⟩
set_option maxHeartbeats 400000 in
theorem slot_ok (h : Int) (w : World) (hv : hvalid h = true) : Calls Tryd.prog 68 #[.int .i64 h] w fun e w' => e = .returned (.int .i64 (hslot h)) ∧ w = w' := by
  go_enter Tryd.func68, Tryd.ntmps68
  go_wp2_with (first | (go_at_call 30; refine (parts_any _ _).mono ?_; rintro e w' ⟨rfl, rfl⟩) | (go_at_call 29; refine (valid_any _ _).mono ?_; rintro e w' ⟨rfl, rfl⟩))
  go_ret
  exact ⟨rfl, rfl⟩
set_option maxHeartbeats 400000 in
theorem gen_ok (h : Int) (w : World) (hv : hvalid h = true) : Calls Tryd.prog 69 #[.int .i64 h] w fun e w' => e = .returned (.int .i64 (hgen h)) ∧ w = w' := by
  go_enter Tryd.func69, Tryd.ntmps69
  go_wp2_with (first | (go_at_call 30; refine (parts_any _ _).mono ?_; rintro e w' ⟨rfl, rfl⟩) | (go_at_call 29; refine (valid_any _ _).mono ?_; rintro e w' ⟨rfl, rfl⟩))
  go_ret
  exact ⟨rfl, rfl⟩
end Go.Proofs.YthoaadfkainpkaaDoor
