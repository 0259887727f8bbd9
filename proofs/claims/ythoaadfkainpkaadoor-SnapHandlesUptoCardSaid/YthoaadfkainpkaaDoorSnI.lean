/- The text of a handle: handle.Text, and the document's answer. -/
import Derived.Test.YthoaadfkainpkaaDoorSnL
import Derived.Test.YthoaadfkainpkaaDoorSnH
import Derived.Lib.QuietBelow
import Derived.Deep.QuietTactic
import Derived.BigQuiet
import Derived.Laws.DeepStrings4
namespace Go.Proofs.YthoaadfkainpkaaDoor
open Go Go.RowKit Go.Sort
set_option linter.unusedVariables false

def letterOf (k : Int) : UInt8 := if k = 1 then 110 else if k = 2 then 116 else 115
/-- A handle's text. -/
def textOf (h : Int) : List UInt8 := if h = 0 then [45] else if hvalid h = true then (letterOf (hkind h) :: Lib.itoa (hslot h)) ++ (46 :: Lib.itoa (hgen h)) else []

theorem may64 {k s g : Int} (h : mayBe k s g) : In64 s ∧ In64 g := by unfold mayBe at h; unfold In64; omega

theorem nts1 (W : World) : (Instr.slice 9 (.string ⟨#[110, 116, 115]⟩) (some (.int .i64 0)) (some (.int .i64 1)) none).run Tryd.prog W = .ok (.string ⟨#[110]⟩) W := by
  rw [run_slice_string_if (h := Tryd.underlying9)]
  rw [if_pos (by decide), if_pos (by decide)]
  rfl
theorem nts2 (W : World) : (Instr.slice 9 (.string ⟨#[110, 116, 115]⟩) (some (.int .i64 1)) (some (.int .i64 2)) none).run Tryd.prog W = .ok (.string ⟨#[116]⟩) W := by
  rw [run_slice_string_if (h := Tryd.underlying9)]
  rw [if_pos (by decide), if_pos (by decide)]
  rfl
theorem nts3 (W : World) : (Instr.slice 9 (.string ⟨#[110, 116, 115]⟩) (some (.int .i64 2)) (some (.int .i64 3)) none).run Tryd.prog W = .ok (.string ⟨#[115]⟩) W := by
  rw [run_slice_string_if (h := Tryd.underlying9)]
  rw [if_pos (by decide), if_pos (by decide)]
  rfl

set_option maxHeartbeats 4000000 in
set_option maxRecDepth 100000 in
theorem handleText (h : Int) (w : World) (ht : Lib.TabIs Tryd.prog w "internal/strconv.uint64pow10" .u64 Lib.pow10Tab) :
    Calls Tryd.prog 13 #[.int .i64 h] w fun e w' => e = .returned (.string ⟨(textOf h).toArray⟩) ∧ Below w.heap.size w w' := by
  have HT := Lib.hid (Lib.tabBelow_of_tabIs ht)
  clear ht
  by_cases h0 : h = 0
  · subst h0
    go_enter Tryd.func13, Tryd.ntmps13
    go_wp2
    go_ret
    exact ⟨rfl, Below.refl _ _⟩
  · cases hv : hvalid h with
    | false =>
      have ht : textOf h = [] := by simp [textOf, h0, hv]
      rw [ht]
      go_enter Tryd.func13, Tryd.ntmps13
      go_wp2_with (go_at_call 29; refine (valid_any _ _).mono ?_; rw [hv]; rintro e w' ⟨rfl, rfl⟩)
      go_ret
      exact ⟨rfl, Below.refl _ _⟩
    | true =>
      have hm : mayBe (hkind h) (hslot h) (hgen h) := of_decide_eq_true hv
      have ht : textOf h = (letterOf (hkind h) :: Lib.itoa (hslot h)) ++ (46 :: Lib.itoa (hgen h)) := by simp [textOf, h0, hv]
      obtain ⟨i1, i2⟩ := may64 hm
      have l1 := Lib.itoa_length_le _ i1.1 i1.2
      have l2 := Lib.itoa_length_le _ i2.1 i2.2
      rw [ht]
      clear ht
      have hk : hkind h = 1 ∨ hkind h = 2 ∨ hkind h = 3 := by unfold mayBe at hm; omega
      have P := parts_any h
      have dX := Below.refl w.heap.size w
      have hbX : w.heap.size ≤ w.heap.size := Nat.le_refl _
      clear hm
      generalize hkind h = k at *
      generalize hslot h = s at *
      generalize hgen h = g at *
      have HP := Lib.hid P
      have mixed : Tryd.prog.follows .mixedOrders = true := by kernel_rfl
      have c1 : ∀ d os, Calls Tryd.prog 31 #[.int .i64 s] (grow (redrawn w d) os) fun e w'' => e = .returned (.string ⟨(Lib.itoa s).toArray⟩) ∧ ∃ p : Regrown, w'' = grow (redrawn w p.d) p.os := fun d os => Calls.regrown_of (itoaB i1 (HT.out _ (below_regrown w d os)))
      have c2 : ∀ d os, Calls Tryd.prog 31 #[.int .i64 g] (grow (redrawn w d) os) fun e w'' => e = .returned (.string ⟨(Lib.itoa g).toArray⟩) ∧ ∃ p : Regrown, w'' = grow (redrawn w p.d) p.os := fun d os => Calls.regrown_of (itoaB i2 (HT.out _ (below_regrown w d os)))
      clear P
      rcases hk with rfl | rfl | rfl
      · have e1 : (⟨#[110]⟩ : ByteArray) ++ ⟨(Lib.itoa s).toArray⟩ = ⟨(110 :: Lib.itoa s).toArray⟩ := bytes_app [_] _
        have n1 : ¬ 9223372036854775807 < 1 + (Lib.itoa s).length := by omega
        have n2 : ¬ 9223372036854775807 < (Lib.itoa s).length + 1 + 1 := by omega
        have n3 : ¬ 9223372036854775807 < (Lib.itoa s).length + 1 + 1 + (Lib.itoa g).length := by omega
        have e2 : (⟨(110 :: Lib.itoa s).toArray⟩ : ByteArray) ++ ⟨#[46]⟩ = ⟨(110 :: (Lib.itoa s ++ [46])).toArray⟩ := bytes_app (110 :: Lib.itoa s) [46]
        have e3 : (⟨(110 :: (Lib.itoa s ++ [46])).toArray⟩ : ByteArray) ++ ⟨(Lib.itoa g).toArray⟩ = ⟨(110 :: (Lib.itoa s ++ 46 :: Lib.itoa g)).toArray⟩ := by
          rw [bytes_app]
          simp
        have N1 : ByteArray.size ⟨#[110, 116, 115]⟩ = 3 := rfl
        have N0 : IntKind.i64.wrap 0 = 0 := by decide
        have N2 : (⟨#[110, 116, 115]⟩ : ByteArray).extract 0 1 = ⟨#[110]⟩ := by decide
        go_enter Tryd.func13, Tryd.ntmps13
        go_wp2_with (first
          | (go_at_call 29; refine (valid_any _ _).mono ?_; rw [hv]; rintro e w' ⟨rfl, rfl⟩)
          | (go_at_call 30; refine (HP.out _).mono ?_; rintro e w' ⟨rfl, rfl⟩))
        refine wp_region_quiet_below (by assumption) (by kernel_rfl) ?_
        repeat (quiet_step (first | exact c1 _ _ | exact c2 _ _))
        refine wpQuiet_nil ?_
        intro _ hw'
        obtain ⟨⟨dq, osq⟩, hw''⟩ := hw'
        subst hw''
        go_wp2
        go_ret
        exact ⟨rfl, below_regrown w dq osq⟩
      · have e1 : (⟨#[116]⟩ : ByteArray) ++ ⟨(Lib.itoa s).toArray⟩ = ⟨(116 :: Lib.itoa s).toArray⟩ := bytes_app [_] _
        have n1 : ¬ 9223372036854775807 < 1 + (Lib.itoa s).length := by omega
        have n2 : ¬ 9223372036854775807 < (Lib.itoa s).length + 1 + 1 := by omega
        have n3 : ¬ 9223372036854775807 < (Lib.itoa s).length + 1 + 1 + (Lib.itoa g).length := by omega
        have e2 : (⟨(116 :: Lib.itoa s).toArray⟩ : ByteArray) ++ ⟨#[46]⟩ = ⟨(116 :: (Lib.itoa s ++ [46])).toArray⟩ := bytes_app (116 :: Lib.itoa s) [46]
        have e3 : (⟨(116 :: (Lib.itoa s ++ [46])).toArray⟩ : ByteArray) ++ ⟨(Lib.itoa g).toArray⟩ = ⟨(116 :: (Lib.itoa s ++ 46 :: Lib.itoa g)).toArray⟩ := by
          rw [bytes_app]
          simp
        have N1 : ByteArray.size ⟨#[110, 116, 115]⟩ = 3 := rfl
        have N0 : IntKind.i64.wrap 1 = 1 := by decide
        have N2 : (⟨#[110, 116, 115]⟩ : ByteArray).extract 1 2 = ⟨#[116]⟩ := by decide
        go_enter Tryd.func13, Tryd.ntmps13
        go_wp2_with (first
          | (go_at_call 29; refine (valid_any _ _).mono ?_; rw [hv]; rintro e w' ⟨rfl, rfl⟩)
          | (go_at_call 30; refine (HP.out _).mono ?_; rintro e w' ⟨rfl, rfl⟩))
        refine wp_region_quiet_below (by assumption) (by kernel_rfl) ?_
        repeat (quiet_step (first | exact c1 _ _ | exact c2 _ _))
        refine wpQuiet_nil ?_
        intro _ hw'
        obtain ⟨⟨dq, osq⟩, hw''⟩ := hw'
        subst hw''
        go_wp2
        go_ret
        exact ⟨rfl, below_regrown w dq osq⟩
      · have e1 : (⟨#[115]⟩ : ByteArray) ++ ⟨(Lib.itoa s).toArray⟩ = ⟨(115 :: Lib.itoa s).toArray⟩ := bytes_app [_] _
        have n1 : ¬ 9223372036854775807 < 1 + (Lib.itoa s).length := by omega
        have n2 : ¬ 9223372036854775807 < (Lib.itoa s).length + 1 + 1 := by omega
        have n3 : ¬ 9223372036854775807 < (Lib.itoa s).length + 1 + 1 + (Lib.itoa g).length := by omega
        have e2 : (⟨(115 :: Lib.itoa s).toArray⟩ : ByteArray) ++ ⟨#[46]⟩ = ⟨(115 :: (Lib.itoa s ++ [46])).toArray⟩ := bytes_app (115 :: Lib.itoa s) [46]
        have e3 : (⟨(115 :: (Lib.itoa s ++ [46])).toArray⟩ : ByteArray) ++ ⟨(Lib.itoa g).toArray⟩ = ⟨(115 :: (Lib.itoa s ++ 46 :: Lib.itoa g)).toArray⟩ := by
          rw [bytes_app]
          simp
        have N1 : ByteArray.size ⟨#[110, 116, 115]⟩ = 3 := rfl
        have N0 : IntKind.i64.wrap 2 = 2 := by decide
        have N2 : (⟨#[110, 116, 115]⟩ : ByteArray).extract 2 3 = ⟨#[115]⟩ := by decide
        go_enter Tryd.func13, Tryd.ntmps13
        go_wp2_with (first
          | (go_at_call 29; refine (valid_any _ _).mono ?_; rw [hv]; rintro e w' ⟨rfl, rfl⟩)
          | (go_at_call 30; refine (HP.out _).mono ?_; rintro e w' ⟨rfl, rfl⟩))
        refine wp_region_quiet_below (by assumption) (by kernel_rfl) ?_
        repeat (quiet_step (first | exact c1 _ _ | exact c2 _ _))
        refine wpQuiet_nil ?_
        intro _ hw'
        obtain ⟨⟨dq, osq⟩, hw''⟩ := hw'
        subst hw''
        go_wp2
        go_ret
        exact ⟨rfl, below_regrown w dq osq⟩
end Go.Proofs.YthoaadfkainpkaaDoor
