/- The document's answer for a handle's text. -/
import Derived.Test.YthoaadfkainpkaaDoorSnI
namespace Go.Proofs.YthoaadfkainpkaaDoor
open Go Go.RowKit Go.Sort
set_option linter.unusedVariables false

set_option maxHeartbeats 400000 in
theorem rmake_ok (k s g : Int) (w : World) (h : mayBe k s g) : Calls Tryd.prog 49 #[.int .i64 k, .int .i64 s, .int .i64 g] w fun e w' => e = .returned (.tuple #[.int .i64 (hnd k s g), .int .i64 0]) ∧ w = w' := by
  unfold mayBe at h
  obtain ⟨h1, h2, h3, h4, h5, h6⟩ := h
  go_enter Tryd.func49, Tryd.ntmps49
  go_wp2
  go_ret2
  exact ⟨by unfold hnd; rfl, rfl⟩

theorem rmake_no (k s g : Int) (w : World) (h : ¬ mayBe k s g) : Calls Tryd.prog 49 #[.int .i64 k, .int .i64 s, .int .i64 g] w fun e w' => e = .returned (.tuple #[.int .i64 0, .int .i64 1]) ∧ w = w' := by
  unfold mayBe at h
  have H : k < 1 ∨ 3 < k ∨ s < 0 ∨ 65535 < s ∨ g < 1 ∨ 1023 < g := by omega
  clear h
  go_enter Tryd.func49, Tryd.ntmps49
  go_wp2
  all_goals (go_ret2; exact ⟨rfl, rfl⟩)

set_option maxHeartbeats 800000 in
theorem rparts (h : Int) (w : World) : Calls Tryd.prog 33 #[.int .i64 h] w fun e w' => e = .returned (if hvalid h = true then .tuple #[.int .i64 (hkind h), .int .i64 (hslot h), .int .i64 (hgen h)] else .tuple #[.int .i64 0, .int .i64 (-1), .int .i64 0]) ∧ w = w' := by
  by_cases hm : mayBe (hkind h) (hslot h) (hgen h)
  · have hv : hvalid h = true := decide_eq_true hm
    have h0 : ¬ h < 0 := by unfold mayBe hkind at hm; omega
    have M := rmake_ok _ _ _ w hm
    rw [hv, if_pos rfl]
    have A1 : bits BinOp.and IntKind.i64 h 1048575 = hgen h := i64_and20 h
    have A2 : bits BinOp.and IntKind.i64 (h / 1048576) 1048575 = hslot h := i64_and20 _
    have A3 : h / 1099511627776 = hkind h := rfl
    clear hv hm
    go_enter Tryd.func33, Tryd.ntmps33
    go_wp2_with (go_at_call 49; refine M.mono ?_; rintro e w' ⟨rfl, rfl⟩)
    go_ret3
    exact ⟨rfl, rfl⟩
  · have hv : hvalid h = false := decide_eq_false hm
    rw [hv, if_neg (by decide)]
    by_cases h0 : h < 0
    · clear hm hv
      go_enter Tryd.func33, Tryd.ntmps33
      go_wp2
      go_ret3
      exact ⟨rfl, rfl⟩
    · have M := rmake_no _ _ _ w hm
      have A1 : bits BinOp.and IntKind.i64 h 1048575 = hgen h := i64_and20 h
      have A2 : bits BinOp.and IntKind.i64 (h / 1048576) 1048575 = hslot h := i64_and20 _
      have A3 : h / 1099511627776 = hkind h := rfl
      clear hv hm
      go_enter Tryd.func33, Tryd.ntmps33
      go_wp2_with (go_at_call 49; refine M.mono ?_; rintro e w' ⟨rfl, rfl⟩)
      go_ret3
      exact ⟨rfl, rfl⟩

/-- A digit. -/
def dgt (n : Nat) : UInt8 := UInt8.ofNat (48 + n)
theorem ten_piece : ∀ n < 10, (⟨#[48, 49, 50, 51, 52, 53, 54, 55, 56, 57]⟩ : ByteArray).extract n (n + 1) = ⟨#[dgt n]⟩ := by decide +kernel

set_option maxHeartbeats 4000000 in
set_option maxRecDepth 100000 in
theorem rdigits : ∀ (n : Nat), n ≤ 1000000 → ∀ w : World, Calls Tryd.prog 34 #[.int .i64 n] w fun e w' => e = .returned (.string ⟨(Lib.decDigits n).toArray⟩) ∧ Below w.heap.size w w' := by
  intro n
  induction n using Nat.strongRecOn with
  | _ n ih =>
    intro hn w
    have N1 : ByteArray.size ⟨#[48, 49, 50, 51, 52, 53, 54, 55, 56, 57]⟩ = 10 := rfl
    by_cases h : n < 10
    · rw [Lib.decDigits_one h]
      have N2 := ten_piece n h
      have N3 : ((n : Int) + 1).toNat = n + 1 := by omega
      clear ih
      go_enter Tryd.func34, Tryd.ntmps34
      go_wp2
      go_ret
      exact ⟨rfl, Below.refl _ _⟩
    · have e : Lib.decDigits n = Lib.decDigits (n / 10) ++ [dgt (n % 10)] := by rw [Lib.decDigits, dif_neg h]; rfl
      rw [e]
      have hl : (Lib.decDigits (n / 10)).length ≤ 21 := by
        have := Lib.itoa_length_le ((n / 10 : Nat) : Int) (by omega) (by omega)
        rwa [Lib.itoa_nonneg] at this
      have N2 := ten_piece (n % 10) (Nat.mod_lt _ (by decide))
      have hm : n % 10 < 10 := Nat.mod_lt _ (by decide)
      have mixed : Tryd.prog.follows .mixedOrders = true := by kernel_rfl
      have c1 : ∀ d os, Calls Tryd.prog 34 #[.int .i64 ((n / 10 : Nat) : Int)] (grow (redrawn w d) os) fun e w'' => e = .returned (.string ⟨(Lib.decDigits (n / 10)).toArray⟩) ∧ ∃ p : Regrown, w'' = grow (redrawn w p.d) p.os := fun d os => Calls.regrown_of (ih (n / 10) (by omega) (by omega) _)
      have N4 : (n : Int).tmod 10 = ((n % 10 : Nat) : Int) := by rw [Int.tmod_eq_emod_of_nonneg (by omega)]; omega
      have N5 : (n : Int).tdiv 10 = ((n / 10 : Nat) : Int) := by rw [Int.tdiv_eq_ediv_of_nonneg (by omega)]; omega
      have N6 : IntKind.i64.wrap ((n / 10 : Nat) : Int) = ((n / 10 : Nat) : Int) := by rw [IntKind.wrap_i64]; omega
      have N7 : IntKind.i64.wrap (((n % 10 : Nat) : Int) + 1) = ((n % 10 + 1 : Nat) : Int) := by rw [IntKind.wrap_i64]; omega
      have e1 : (⟨(Lib.decDigits (n / 10)).toArray⟩ : ByteArray) ++ ⟨#[dgt (n % 10)]⟩ = ⟨(Lib.decDigits (n / 10) ++ [dgt (n % 10)]).toArray⟩ := bytes_app _ [_]
      have n1 : ¬ 9223372036854775807 < (Lib.decDigits (n / 10)).length + 1 := by omega
      clear ih e
      generalize hq : n / 10 = q at *
      generalize hr : n % 10 = r at *
      have q1 : 0 ≤ (r : Int) + 1 := by omega
      have q2 : (r : Int) + 1 ≤ 10 := by omega
      have q3 : (r : Int) ≤ (r : Int) + 1 := by omega
      go_enter Tryd.func34, Tryd.ntmps34
      go_wp2
      refine wp_region_quiet_below (by assumption) (by kernel_rfl) ?_
      quiet_step (first | exact c1 _ _)
      quiet_step (first | exact c1 _ _)
      quiet_step (first | exact c1 _ _)
      quiet_step (first | exact c1 _ _)
      quiet_step (first | exact c1 _ _)
      quiet_step (first | exact c1 _ _)
      quiet_step (first | exact c1 _ _)
      quiet_step (first | exact c1 _ _)
      quiet_step (first | exact c1 _ _)
      quiet_step (first | exact c1 _ _)
      quiet_step (first | exact c1 _ _)
      refine wpQuiet_nil ?_
      intro _ hw'
      obtain ⟨⟨dq, osq⟩, hw''⟩ := hw'
      subst hw''
      go_wp2
      go_ret
      exact ⟨rfl, below_regrown w dq osq⟩

set_option maxHeartbeats 4000000 in
set_option maxRecDepth 100000 in
theorem refText (h : Int) (w : World) :
    Calls Tryd.prog 15 #[.int .i64 h] w fun e w' => e = .returned (.string ⟨(textOf h).toArray⟩) ∧ Below w.heap.size w w' := by
  by_cases h0 : h = 0
  · subst h0
    go_enter Tryd.func15, Tryd.ntmps15
    go_wp2
    go_ret
    exact ⟨rfl, Below.refl _ _⟩
  · have P := rparts h
    cases hv : hvalid h with
    | false =>
      have ht : textOf h = [] := by simp [textOf, h0, hv]
      rw [ht]
      rw [hv] at P
      have HP := Lib.hid P
      clear P
      go_enter Tryd.func15, Tryd.ntmps15
      go_wp2_with (go_at_call 33; refine (HP.out _).mono ?_; rintro e w' ⟨rfl, rfl⟩)
      go_ret
      exact ⟨rfl, Below.refl _ _⟩
    | true =>
      have hm : mayBe (hkind h) (hslot h) (hgen h) := of_decide_eq_true hv
      have ht : textOf h = (letterOf (hkind h) :: Lib.itoa (hslot h)) ++ (46 :: Lib.itoa (hgen h)) := by simp [textOf, h0, hv]
      rw [ht]
      rw [hv] at P
      rw [if_pos rfl] at P
      clear ht
      have hk : hkind h = 1 ∨ hkind h = 2 ∨ hkind h = 3 := by unfold mayBe at hm; omega
      unfold mayBe at hm
      obtain ⟨_, _, hs0, hs1, hg0, hg1⟩ := hm
      obtain ⟨s, hs⟩ : ∃ s : Nat, hslot h = s := ⟨(hslot h).toNat, by omega⟩
      obtain ⟨g, hg⟩ : ∃ g : Nat, hgen h = g := ⟨(hgen h).toNat, by omega⟩
      rw [hs, hg, Lib.itoa_nonneg, Lib.itoa_nonneg]
      rw [hs, hg] at P
      have hs2 : s ≤ 1000000 := by omega
      have hg2 : g ≤ 1000000 := by omega
      have l1 : (Lib.decDigits s).length ≤ 21 := by
        have := Lib.itoa_length_le (s : Int) (by omega) (by omega)
        rwa [Lib.itoa_nonneg] at this
      have l2 : (Lib.decDigits g).length ≤ 21 := by
        have := Lib.itoa_length_le (g : Int) (by omega) (by omega)
        rwa [Lib.itoa_nonneg] at this
      clear hs hg hs0 hs1 hg0 hg1
      generalize hkind h = k at *
      have HP := Lib.hid P
      clear P
      have mixed : Tryd.prog.follows .mixedOrders = true := by kernel_rfl
      have c1 : ∀ d os, Calls Tryd.prog 34 #[.int .i64 (s : Int)] (grow (redrawn w d) os) fun e w'' => e = .returned (.string ⟨(Lib.decDigits s).toArray⟩) ∧ ∃ p : Regrown, w'' = grow (redrawn w p.d) p.os := fun d os => Calls.regrown_of (rdigits s hs2 _)
      have c2 : ∀ d os, Calls Tryd.prog 34 #[.int .i64 (g : Int)] (grow (redrawn w d) os) fun e w'' => e = .returned (.string ⟨(Lib.decDigits g).toArray⟩) ∧ ∃ p : Regrown, w'' = grow (redrawn w p.d) p.os := fun d os => Calls.regrown_of (rdigits g hg2 _)
      clear hs2 hg2
      generalize Lib.decDigits s = ds at *
      generalize Lib.decDigits g = dg at *
      generalize (s : Int) = sI at *
      generalize (g : Int) = gI at *
      rcases hk with rfl | rfl | rfl
      · have e1 : (⟨#[110]⟩ : ByteArray) ++ ⟨(ds).toArray⟩ = ⟨(110 :: ds).toArray⟩ := bytes_app [_] _
        have n1 : ¬ 9223372036854775807 < 1 + (ds).length := by omega
        have n2 : ¬ 9223372036854775807 < (ds).length + 1 + 1 := by omega
        have n3 : ¬ 9223372036854775807 < (ds).length + 1 + 1 + (dg).length := by omega
        have e2 : (⟨(110 :: ds).toArray⟩ : ByteArray) ++ ⟨#[46]⟩ = ⟨(110 :: (ds ++ [46])).toArray⟩ := bytes_app (110 :: ds) [46]
        have e3 : (⟨(110 :: (ds ++ [46])).toArray⟩ : ByteArray) ++ ⟨(dg).toArray⟩ = ⟨(110 :: (ds ++ 46 :: dg)).toArray⟩ := by
          rw [bytes_app]
          simp
        have N1 : ByteArray.size ⟨#[110, 116, 115]⟩ = 3 := rfl
        have N0 : IntKind.i64.wrap 0 = 0 := by decide
        have N2 : (⟨#[110, 116, 115]⟩ : ByteArray).extract 0 1 = ⟨#[110]⟩ := by decide
        go_enter Tryd.func15, Tryd.ntmps15
        go_wp2_with (first
          | (go_at_call 33; refine (HP.out _).mono ?_; rintro e w' ⟨rfl, rfl⟩))
        refine wp_region_quiet_below (by assumption) (by kernel_rfl) ?_
        repeat (quiet_step (first | (with_reducible exact c1 _ _) | (with_reducible exact c2 _ _)))
        refine wpQuiet_nil ?_
        intro _ hw'
        obtain ⟨⟨dq, osq⟩, hw''⟩ := hw'
        subst hw''
        go_wp2
        go_ret
        exact ⟨rfl, below_regrown w dq osq⟩
      · have e1 : (⟨#[116]⟩ : ByteArray) ++ ⟨(ds).toArray⟩ = ⟨(116 :: ds).toArray⟩ := bytes_app [_] _
        have n1 : ¬ 9223372036854775807 < 1 + (ds).length := by omega
        have n2 : ¬ 9223372036854775807 < (ds).length + 1 + 1 := by omega
        have n3 : ¬ 9223372036854775807 < (ds).length + 1 + 1 + (dg).length := by omega
        have e2 : (⟨(116 :: ds).toArray⟩ : ByteArray) ++ ⟨#[46]⟩ = ⟨(116 :: (ds ++ [46])).toArray⟩ := bytes_app (116 :: ds) [46]
        have e3 : (⟨(116 :: (ds ++ [46])).toArray⟩ : ByteArray) ++ ⟨(dg).toArray⟩ = ⟨(116 :: (ds ++ 46 :: dg)).toArray⟩ := by
          rw [bytes_app]
          simp
        have N1 : ByteArray.size ⟨#[110, 116, 115]⟩ = 3 := rfl
        have N0 : IntKind.i64.wrap 1 = 1 := by decide
        have N2 : (⟨#[110, 116, 115]⟩ : ByteArray).extract 1 2 = ⟨#[116]⟩ := by decide
        go_enter Tryd.func15, Tryd.ntmps15
        go_wp2_with (first
          | (go_at_call 33; refine (HP.out _).mono ?_; rintro e w' ⟨rfl, rfl⟩))
        refine wp_region_quiet_below (by assumption) (by kernel_rfl) ?_
        repeat (quiet_step (first | (with_reducible exact c1 _ _) | (with_reducible exact c2 _ _)))
        refine wpQuiet_nil ?_
        intro _ hw'
        obtain ⟨⟨dq, osq⟩, hw''⟩ := hw'
        subst hw''
        go_wp2
        go_ret
        exact ⟨rfl, below_regrown w dq osq⟩
      · have e1 : (⟨#[115]⟩ : ByteArray) ++ ⟨(ds).toArray⟩ = ⟨(115 :: ds).toArray⟩ := bytes_app [_] _
        have n1 : ¬ 9223372036854775807 < 1 + (ds).length := by omega
        have n2 : ¬ 9223372036854775807 < (ds).length + 1 + 1 := by omega
        have n3 : ¬ 9223372036854775807 < (ds).length + 1 + 1 + (dg).length := by omega
        have e2 : (⟨(115 :: ds).toArray⟩ : ByteArray) ++ ⟨#[46]⟩ = ⟨(115 :: (ds ++ [46])).toArray⟩ := bytes_app (115 :: ds) [46]
        have e3 : (⟨(115 :: (ds ++ [46])).toArray⟩ : ByteArray) ++ ⟨(dg).toArray⟩ = ⟨(115 :: (ds ++ 46 :: dg)).toArray⟩ := by
          rw [bytes_app]
          simp
        have N1 : ByteArray.size ⟨#[110, 116, 115]⟩ = 3 := rfl
        have N0 : IntKind.i64.wrap 2 = 2 := by decide
        have N2 : (⟨#[110, 116, 115]⟩ : ByteArray).extract 2 3 = ⟨#[115]⟩ := by decide
        go_enter Tryd.func15, Tryd.ntmps15
        go_wp2_with (first
          | (go_at_call 33; refine (HP.out _).mono ?_; rintro e w' ⟨rfl, rfl⟩))
        refine wp_region_quiet_below (by assumption) (by kernel_rfl) ?_
        repeat (quiet_step (first | (with_reducible exact c1 _ _) | (with_reducible exact c2 _ _)))
        refine wpQuiet_nil ?_
        intro _ hw'
        obtain ⟨⟨dq, osq⟩, hw''⟩ := hw'
        subst hw''
        go_wp2
        go_ret
        exact ⟨rfl, below_regrown w dq osq⟩
end Go.Proofs.YthoaadfkainpkaaDoor
