/- A new kernel: its leaf, its book, its pool. -/
import Derived.Test.YthoaadfkainpkaaDoorSnSt
import Derived.Test.YthoaadfkainpkaaDoorSnM
namespace Go.Proofs.YthoaadfkainpkaaDoor
open Go.RowKit
set_option linter.unusedVariables false
variable {w : World} {g gl m : Nat} {kind : Int} {gen : Nat → Int}

set_option maxHeartbeats 1000000 in
theorem allT (h : TTab w g gl kind m gen) (hm : m ≤ 4096) :
    Calls Tryd.prog 57 #[.pointer (some ⟨g, 0, none⟩)] w fun e w' => e = .returned (.slice none 0 0) ∧ Below w.heap.size w w' := by
  have hlt : g < w.heap.size := h.head.lt
  have hll : gl < w.heap.size := h.list.lt
  have H := Lib.hid h
  have c1 := h.c1
  clear h
  go_enter Tryd.func57, Tryd.ntmps57
  go_wp2
  go_loopw [3, 13] (fun v u wr => ∃ k : Nat, k ≤ m ∧ u = .int .i64 k ∧ v = .slice none 0 0 ∧ Below w.heap.size w wr) (fun _ u _ => m - (intOf u).toNat)
  case atStart => exact ⟨0, by omega, rfl, rfl, Below.refl _ _⟩
  case round =>
    obtain ⟨k, hk, rfl, rfl, hbel⟩ := hrel
    have HW := Lib.hid hbel
    have hsz : w.heap.size ≤ wr.heap.size := hbel.size
    have T := Lib.hid (H.out.below hbel hlt hll)
    clear hbel
    by_cases e : k < m
    · have s0 := T.out.s0 e
      have s1 := T.out.s1 e
      have s2 := T.out.s2 e
      have s3 := T.out.s3 e
      have s4 := T.out.s4 e
      have s5 := T.out.s5 e
      have s6 := T.out.s6 e
      have s7 := T.out.s7 e
      have s8 := T.out.s8 e
      have s9 := T.out.s9 e
      go_wp2
      go_roundw
      case rel => exact ⟨k + 1, by omega, by go_num, rfl, HW.out.alloc hsz _⟩
      case measure => simp [intOf]; omega
    · have e : k = m := by omega
      subst e
      go_wp2
      go_ret
      exact ⟨rfl, HW.out⟩

set_option maxHeartbeats 400000 in
theorem leafNew (w : World) : Calls Tryd.prog 18 #[] w fun e w' => ∃ g gt gl, e = .returned (.pointer (some ⟨g, 0, none⟩)) ∧ w.heap.size ≤ g ∧ w.heap.size ≤ gt ∧ w.heap.size ≤ gl ∧ 
    Blk w' g 107 [.pointer (some ⟨gt, 0, none⟩)] ∧ TTab w' gt gl 2 8 (fun _ => 1) ∧ Below w.heap.size w w' := by
  go_enter Tryd.func18, Tryd.ntmps18
  go_wp2_with (go_at_call 36; refine (newT 2 8 _ (by omega) (by omega) (by omega) (by omega)).mono ?_; rintro e w' ⟨gt, gl, rfl, h1, h2, h3, h4, h5⟩)
  go_ret
  have hs := h5.size
  exact ⟨_, gt, gl, rfl, hs, h1, h2, Blk.newA _ _ _, ⟨h3.alloc _, h4.alloc _⟩, h5.alloc hs _⟩

set_option maxHeartbeats 400000 in
theorem poolNew (w : World) : Calls Tryd.prog 20 #[] w fun e w' => ∃ g gt gl, e = .returned (.pointer (some ⟨g, 0, none⟩)) ∧ w.heap.size ≤ g ∧ w.heap.size ≤ gt ∧ w.heap.size ≤ gl ∧ 
    Blk w' g 114 [.pointer (some ⟨gt, 0, none⟩), .int .i64 (-1)] ∧ TTab w' gt gl 3 16 (fun _ => 1) ∧ Below w.heap.size w w' := by
  go_enter Tryd.func20, Tryd.ntmps20
  go_wp2_with (go_at_call 36; refine (newT 3 16 _ (by omega) (by omega) (by omega) (by omega)).mono ?_; rintro e w' ⟨gt, gl, rfl, h1, h2, h3, h4, h5⟩)
  go_ret
  have hs := h5.size
  exact ⟨_, gt, gl, rfl, hs, h1, h2, Blk.newA _ _ _, ⟨h3.alloc _, h4.alloc _⟩, h5.alloc hs _⟩

/-- An open account with nothing in it. -/
def entry0 : Value := .agg #[.int .i64 0, .int .i64 0, .int .i64 0, .int .i64 0, .int .i64 0, .int .i64 0, .int .i64 0, .int .i64 0, .int .i64 0, .int .i64 0, .int .i64 0, .int .i64 0, .int .i64 0]

set_option maxHeartbeats 400000 in
theorem ledgerNew (r : Int) (w : World) (hr : r ≠ 0) : Calls Tryd.prog 19 #[.int .i64 r] w fun e w' => ∃ g gm, e = .returned (.pointer (some ⟨g, 0, none⟩)) ∧ w.heap.size ≤ g ∧ w.heap.size ≤ gm ∧
    Blk w' g 112 [.int .i64 r, .map (some gm)] ∧ Map1 w' gm r entry0 ∧ Below w.heap.size w w' := by
  have hb : (r == 0) = false := beq_eq_false_iff_ne.2 hr
  have hmm := @run_makeMap Tryd.prog
  go_enter Tryd.func19, Tryd.ntmps19
  go_wp2_with (refine wpList_insert_first rfl (.tmp 6) (.tmp 7) (.tmp 8) 110 rfl 34 109 Tryd.underlying110 Tryd.underlying34 w.heap.size r entry0 rfl rfl rfl (heap_alloc_new w _) ?_
               intro w1 hm hg)
  go_ret
  have hbel : Below w.heap.size w w1 := ((Below.refl _ _).alloc (Nat.le_refl _) _).grown hg (by simp) (by intro k hk; simp at hk; omega)
  have hs := hbel.size
  exact ⟨_, w.heap.size, rfl, hs, Nat.le_refl _, Blk.newA _ _ _, hm.alloc _, hbel.alloc hs _⟩

/-- The root's handle. -/
def rootH : Int := hnd 1 0 1
theorem rootH_may : mayBe 1 ((0 : Nat) : Int) 1 := by decide
theorem rootH_ne : rootH ≠ 0 := by decide
/-- A node without budget, as it is made for the root: its leaf's block. -/
def node0 (gl : Nat) : List Value := [.int .i64 0, .int .i64 0, .int .i64 0, .int .i64 0, .int .i64 0, .bool false, .int .i64 0, .int .i64 0, .int .i64 0, .int .i64 0, .pointer (some ⟨gl, 0, none⟩)]

/-- A kernel as New makes it: all its blocks from B on. -/
structure Kern0 (w : World) (B k : Nat) : Prop where
  mk ::
  ex : ∃ gT gL gN gF gB gM gP gQ gR, B ≤ k ∧ B ≤ gT ∧ B ≤ gL ∧ B ≤ gN ∧ B ≤ gF ∧ B ≤ gB ∧ B ≤ gM ∧ B ≤ gP ∧ B ≤ gQ ∧ B ≤ gR ∧
    Blk w k 59 [.pointer (some ⟨gT, 0, none⟩), .int .i64 rootH, .pointer (some ⟨gB, 0, none⟩), .pointer (some ⟨gP, 0, none⟩), .int .i64 0, .int .i64 0] ∧
    NTab w gT gL 1 64 (fun _ => 1) (fun j => if j = 0 then true else false) (fun j => if j = 0 then some ⟨gN, 0, none⟩ else none) ∧
    Blk w gN 53 (node0 gF) ∧ Blk w gB 112 [.int .i64 rootH, .map (some gM)] ∧ Map1 w gM rootH entry0 ∧
    Blk w gP 114 [.pointer (some ⟨gQ, 0, none⟩), .int .i64 (-1)] ∧ TTab w gQ gR 3 16 (fun _ => 1)

set_option maxHeartbeats 2000000 in
theorem kernelNew (w : World) : Calls Tryd.prog 10 #[] w fun e w' => ∃ k, e = .returned (.pointer (some ⟨k, 0, none⟩)) ∧ Kern0 w' w.heap.size k ∧ Below w.heap.size w w' := by
  go_enter Tryd.func10, Tryd.ntmps10
  go_wp2_with (go_at_call 16; refine (newN 1 64 _ (by omega) (by omega) (by omega) (by omega)).mono ?_; rintro e w1 ⟨gT, gL, rfl, a1, a2, a3, a4, a5⟩)
  have T1 : NTab w1 gT gL 1 64 (fun _ => 1) (fun _ => false) (fun _ => none) := ⟨a3, a4⟩
  have hlT := T1.head.lt
  have hlL := T1.list.lt
  have hs1 := a5.size
  have HT1 := Lib.hid T1
  have HB1 := Lib.hid a5
  clear T1 a3 a4 a5
  go_wp2_with (go_at_call 18; refine (leafNew _).mono ?_; rintro e w2 ⟨gF, gt, gl, rfl, b1, b2, b3, b4, b5, b6⟩)
  have hs2 := b6.size
  have T2 := HT1.out.below b6 hlT hlL
  have BN := Blk.newA w2 (node0 gF).toArray 53
  have HT3 := Lib.hid (T2.alloc (.cells (node0 gF).toArray 53))
  have HBN := Lib.hid BN
  have HB2 := Lib.hid ((HB1.out.trans (b6.mono (Nat.le_trans (Nat.le_refl _) hs1))).alloc (Nat.le_trans hs1 hs2) (.cells (node0 gF).toArray 53))
  clear T2 BN b4 b5 b6
  refine (addN 0 (some ⟨w2.heap.size, 0, none⟩) HT3.out (by omega) (by omega) rfl rootH_may (fun j hj => absurd hj (by omega))).mono ?_
  rintro e w3 ⟨rfl, c1, c2⟩
  have HT4 := Lib.hid c1
  have HB3 := Lib.hid (HB2.out.grown c2 (by rw [size_alloc]; omega) (by intro k hk; simp at hk; omega))
  have HN3 := Lib.hid (HBN.out.grown c2 (by simp; omega))
  have hs3 : w2.heap.size < w3.heap.size := by have := c2.size; rw [size_alloc] at this; omega
  clear c1 c2
  go_wp2_with (go_at_call 19; refine (ledgerNew _ _ rootH_ne).mono ?_; rintro e w4 ⟨gB, gM, rfl, d1, d2, d3, d4, d5⟩)
  have hs4 := d5.size
  have hlT3 := HT4.out.head.lt
  have hlL3 := HT4.out.list.lt
  have HT5 := Lib.hid (HT4.out.below d5 hlT3 hlL3)
  have HN4 := Lib.hid (HN3.out.below d5 hs3)
  have HB4 := Lib.hid (HB3.out.trans (d5.mono (by omega)))
  have hlB := d3.lt
  have hlM := d4.lt
  have HBk := Lib.hid d3
  have HM := Lib.hid d4
  clear d3 d4 d5
  refine (poolNew _).mono ?_
  rintro e w5 ⟨gP, gQ, gR, rfl, e1, e2, e3, e4, e5, e6⟩
  have hs5 := e6.size
  have HT6 := Lib.hid (HT5.out.below e6 (by omega) (by omega))
  have HN5 := Lib.hid (HN4.out.below e6 (by omega))
  have HBk5 := Lib.hid (HBk.out.below e6 hlB)
  have HM5 := Lib.hid (HM.out.below e6 hlM)
  have HB5 := Lib.hid (HB4.out.trans (e6.mono (by omega)))
  have HP := Lib.hid e4
  have HQ := Lib.hid e5
  clear e4 e5 e6
  go_wp2
  go_ret
  refine ⟨w5.heap.size, rfl, ⟨gT, gL, w2.heap.size, gF, gB, gM, gP, gQ, gR, by omega, a1, a2, by omega, by omega, by omega, by omega, by omega, by omega, by omega, ?_, ?_, ?_, ?_, ?_, ?_, ?_⟩, ?_⟩
  · exact Blk.newA _ _ _
  · exact HT6.out.alloc _
  · exact HN5.out.alloc _
  · exact HBk5.out.alloc _
  · exact HM5.out.alloc _
  · exact HP.out.alloc _
  · exact HQ.out.alloc _
  · exact HB5.out.alloc (by omega) _
end Go.Proofs.YthoaadfkainpkaaDoor
