/- A table of nodes: All, Slots. -/
import Derived.Test.YthoaadfkainpkaaDoorSnT
namespace Go.Proofs.YthoaadfkainpkaaDoor
open Go.RowKit
set_option linter.unusedVariables false
variable {w : World} {g gl m : Nat} {kind : Int} {gen : Nat → Int} {tk : Nat → Bool} {th : Nat → Option Addr}

theorem infoH : (Tryd.prog.info? 34).map (fun i => (i.zero, i.size, i.bytes)) = some (some (.int .i64 0), 1, 8) := by kernel_rfl
theorem infoI : (Tryd.prog.info? 3).map (fun i => (i.zero, i.size, i.bytes)) = some (some (.int .i64 0), 1, 8) := by kernel_rfl
theorem infoB : (Tryd.prog.info? 4).map (fun i => (i.zero, i.size, i.bytes)) = some (some (.bool false), 1, 1) := by kernel_rfl

/-- The handles of what is there, of the first k slots. -/
def handlesTo (kind : Int) (gen : Nat → Int) (tk : Nat → Bool) (k : Nat) : List Int := ((List.range k).filter tk).map fun j : Nat => hnd kind j (gen j)
theorem handlesTo_yes (k : Nat) (h : tk k = true) : handlesTo kind gen tk (k + 1) = handlesTo kind gen tk k ++ [hnd kind k (gen k)] := by simp [handlesTo, List.range_succ, List.filter_append, h]
theorem handlesTo_no (k : Nat) (h : tk k = false) : handlesTo kind gen tk (k + 1) = handlesTo kind gen tk k := by simp [handlesTo, List.range_succ, List.filter_append, h]
theorem handlesTo_len (k : Nat) : (handlesTo kind gen tk k).length ≤ k := by
  unfold handlesTo
  rw [List.length_map]
  exact Nat.le_trans (List.length_filter_le _ _) (by simp)
/-- Whole numbers as cells. -/
def ints (l : List Int) : List Value := l.map (Value.int .i64)
theorem ints_snoc (l : List Int) (x : Int) : ints (l ++ [x]) = ints l ++ [.int .i64 x] := by simp [ints]
theorem ints_len (l : List Int) : (ints l).length = l.length := by simp [ints]

set_option maxHeartbeats 4000000 in
theorem allN (h : NTab w g gl kind m gen tk th) (hm : m ≤ 4096) (hb : ∀ i : Nat, i < m → tk i = true → mayBe kind i (gen i)) :
    Calls Tryd.prog 81 #[.pointer (some ⟨g, 0, none⟩)] w fun e w' => ∃ v, e = .returned v ∧ w'.ownsRow w.heap.size 34 1 v (handlesTo kind gen tk m).length (ints (handlesTo kind gen tk m)) ∧ Below w.heap.size w w' := by
  have hlt : g < w.heap.size := h.head.lt
  have hll : gl < w.heap.size := h.list.lt
  have H := Lib.hid h
  have HB := Lib.hid hb
  have c1 := h.c1
  clear h hb
  go_enter Tryd.func81, Tryd.ntmps81
  go_wp2
  go_loopw [3, 13] (fun v u wr => ∃ k : Nat, k ≤ m ∧ u = .int .i64 k ∧ wr.ownsRow w.heap.size 34 1 v (handlesTo kind gen tk k).length (ints (handlesTo kind gen tk k)) ∧ Below w.heap.size w wr) (fun _ u _ => m - (intOf u).toNat)
  case atStart => exact ⟨0, by omega, rfl, own_nil _ _ _ _, Below.refl _ _⟩
  case round =>
    obtain ⟨k, hk, rfl, hown, hbel⟩ := hrel
    have HO := Lib.hid hown
    have HW := Lib.hid hbel
    have hsz : w.heap.size ≤ wr.heap.size := hbel.size
    have T := Lib.hid (H.out.below hbel hlt hll)
    have hlen := handlesTo_len (kind := kind) (gen := gen) (tk := tk) k
    clear hown hbel
    by_cases e : k < m
    · have s0 := T.out.s0 e
      have s1 := T.out.s1 e
      have s2 := T.out.s2 e
      cases htk : tk k with
      | true =>
        rw [htk] at s1
        have hmb := Lib.hid (HB.out k e htk)
        have HT := Lib.hid htk
        clear htk
        go_wp2_with (first
          | (go_at_call 35; refine (nameN k (T.out.alloc _) e hm hmb.out).mono ?_; rintro e w' ⟨rfl, nq, rfl⟩)
          | (at_builtin; refine app1 _ rfl _ _ 26 rfl w.heap.size 34 _ 8 Tryd.underlying26 infoH rfl _ _ _ rfl ((own_drewN (HO.out.alloc _) _).alloc _) (wr.heap.size + 1) 1 (.int .i64 (hnd kind k (gen k))) rfl
               (cell_new _ _ _ (by rw [size_drewN, size_alloc])) rfl (by omega) (by omega) (by rw [size_alloc, size_drewN, size_alloc]; omega) ?_
             intro v' w1 hown1 hg1
             have HO1 := Lib.hid hown1
             have HG1 := Lib.hid hg1
             clear hown1 hg1))
        go_roundw
        case rel =>
          refine ⟨k + 1, by omega, by go_num, own_len HO1.out (by rw [handlesTo_yes k HT.out]; simp) (by rw [handlesTo_yes k HT.out, ints_snoc]), ?_⟩
          refine (((below_drewN (HW.out.alloc hsz _) _).alloc (by rw [size_drewN, size_alloc]; omega) _)).grown HG1.out (by rw [size_alloc, size_drewN, size_alloc]; omega) (own_from HO.out)
        case measure => simp [intOf]; omega
      | false =>
        rw [htk] at s1
        have HT := Lib.hid htk
        clear htk
        go_wp2
        go_roundw
        case rel =>
          refine ⟨k + 1, by omega, by go_num, own_len (HO.out.alloc _) (by rw [handlesTo_no k HT.out]) (by rw [handlesTo_no k HT.out]), HW.out.alloc hsz _⟩
        case measure => simp [intOf]; omega
    · have e : k = m := by omega
      subst e
      go_wp2
      go_ret
      exact ⟨_, rfl, HO.out, HW.out⟩
end Go.Proofs.YthoaadfkainpkaaDoor
