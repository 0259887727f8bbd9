/- snap.Handles: the texts of handles, joined. -/
import Derived.Test.YthoaadfkainpkaaDoorSnJ
import Derived.Test.YthoaadfkainpkaaDoorSnA
import Derived.Test.YthoaadfkainpkaaDoorSnV
namespace Go.Proofs.YthoaadfkainpkaaDoor
open Go.RowKit
set_option linter.unusedVariables false

theorem infoStr : (Tryd.prog.info? 9).map (fun i => (i.zero, i.size, i.bytes)) = some (some (.string ⟨#[]⟩), 1, 16) := by kernel_rfl
/-- The texts as cells. -/
def textCells (l : List Int) : List Value := l.map fun h => .string ⟨(textOf h).toArray⟩
theorem textCells_take (l : List Int) {k : Nat} {x : Int} (h : l[k]? = some x) : textCells (l.take (k + 1)) = textCells (l.take k) ++ [.string ⟨(textOf x).toArray⟩] := by
  unfold textCells
  rw [List.take_add_one, h]
  simp
theorem textOf_length (h : Int) : (textOf h).length ≤ 45 := by
  unfold textOf
  split
  · simp
  · split
    · rename_i _ hv
      obtain ⟨i1, i2⟩ := may64 (of_decide_eq_true hv : mayBe (hkind h) (hslot h) (hgen h))
      have l1 := Lib.itoa_length_le _ i1.1 i1.2
      have l2 := Lib.itoa_length_le _ i2.1 i2.2
      simp
      omega
    · simp
/-- What is written of handles. -/
def joined (l : List Int) : List UInt8 := Lib.join (l.map textOf) [32]

theorem tail_length (l : List Int) : (Lib.joinTail [32] (l.map textOf)).length ≤ 46 * l.length := by
  induction l with
  | nil => simp [Lib.joinTail]
  | cons x l ih =>
    have := textOf_length x
    simp only [Lib.joinTail, List.map_cons, List.flatten_cons, List.length_append, List.length_cons, List.length_nil] at *
    omega
theorem joined_length (l : List Int) : (joined l).length ≤ 46 * l.length := by
  unfold joined
  cases l with
  | nil => simp [Lib.join_nil]
  | cons x l =>
    have := textOf_length x
    have := tail_length l
    rw [List.map_cons, Lib.join_cons, List.length_append, List.length_cons]
    omega

/-- A slice that came in, wherever it lies: its numbers. -/
def IntsIn (w : World) (v : Value) (l : List Int) : Prop :=
  (l = [] ∧ ∃ A c, v = .slice A 0 c) ∨ ∃ g o c, v = .slice (some ⟨g, o, none⟩) l.length c ∧ g < w.heap.size ∧ ∀ (i : Nat) (x : Int), l[i]? = some x → w.cell? ⟨g, o + i, none⟩ = some (.int .i64 x)
theorem IntsIn.below {w w' : World} {v : Value} {l : List Int} (h : IntsIn w v l) (hb : Below w.heap.size w w') : IntsIn w' v l := by
  rcases h with h | ⟨g, o, c, hv, hg, hc⟩
  · exact .inl h
  · exact .inr ⟨g, o, c, hv, Nat.lt_of_lt_of_le hg hb.size, fun i x hx => (hb.cell (p := ⟨g, o + i, none⟩) hg).trans (hc i x hx)⟩

set_option maxHeartbeats 4000000 in
set_option maxRecDepth 100000 in
theorem handlesW {v : Value} {l : List Int} {w : World} (hv : IntsIn w v l) (hn : l.length ≤ 2000000) (ht : Lib.TabIs Tryd.prog w "internal/strconv.uint64pow10" .u64 Lib.pow10Tab) :
    Calls Tryd.prog 8 #[v] w fun e w' => e = .returned (.string ⟨(joined l).toArray⟩) ∧ Below w.heap.size w w' := by
  obtain ⟨A, c, rfl⟩ : ∃ A c, v = .slice A l.length c := by
    rcases hv with ⟨rfl, A, c, rfl⟩ | ⟨g, o, c, rfl, _⟩
    · exact ⟨A, c, rfl⟩
    · exact ⟨_, c, rfl⟩
  have HT := Lib.hid (Lib.tabBelow_of_tabIs ht)
  have HV := Lib.hid hv
  clear ht hv
  go_enter Tryd.func8, Tryd.ntmps8
  go_wp2
  go_loopw [3, 5, 8] (fun u x i wr => ∃ k : Nat, k ≤ l.length ∧ i = .int .i64 k ∧ wr.ownsRow w.heap.size 9 1 u k (textCells (l.take k)) ∧ Below w.heap.size w wr) (fun _ _ i _ => l.length - (intOf i).toNat)
  case atStart => exact ⟨0, by omega, rfl, own_nil _ _ _ _, Below.refl _ _⟩
  case round =>
    obtain ⟨k, hk, rfl, hown, hbel⟩ := hrel
    have hsz : w.heap.size ≤ wr.heap.size := hbel.size
    have HO := Lib.hid hown
    have HW := Lib.hid hbel
    by_cases e : k < l.length
    · obtain ⟨x, hx⟩ : ∃ x, l[k]? = some x := ⟨_, List.getElem?_eq_getElem e⟩
      obtain ⟨g, o, hA, c0⟩ : ∃ g o, A = some ⟨g, o, none⟩ ∧ wr.cell? ⟨g, o + k, none⟩ = some (.int .i64 x) := by
        rcases HV.out.below hbel with ⟨hl, _⟩ | ⟨g, o, c', hv, _, hc⟩
        · simp [hl] at e
        · injection hv with h1 h2 h3
          exact ⟨g, o, h1, hc k x hx⟩
      clear hown hbel
      subst hA
      go_wp2_with fail
      refine (handleText x wr (HT.out _ HW.out)).mono ?_
      rintro e w1 ⟨rfl, h1⟩
      have HO1 := Lib.hid (own_on HO.out h1)
      have HW1 := Lib.hid (HW.out.trans (h1.mono hsz))
      have hsz1 := Nat.le_trans hsz h1.size
      clear h1
      go_wp2_with (at_builtin
                   refine app1 _ rfl _ _ 33 rfl w.heap.size 9 _ 16 Tryd.underlying33 infoStr rfl _ _ _ rfl (HO1.out.alloc _) w1.heap.size 1 (.string ⟨(textOf x).toArray⟩) rfl
                     (cell_new _ _ _ rfl) rfl (by omega) (by omega) (by rw [size_alloc]; omega) ?_
                   intro v' w2 hown1 hg1
                   have HO2 := Lib.hid hown1
                   have HG2 := Lib.hid hg1
                   clear hown1 hg1)
      go_roundw
      case rel =>
        refine ⟨k + 1, by omega, by go_num, own_len HO2.out rfl (by rw [textCells_take l hx]), ?_⟩
        exact (HW1.out.alloc hsz1 _).grown HG2.out (by rw [size_alloc]; omega) (own_from HO1.out)
      case measure => simp [intOf]; omega
    · have hkk : k = l.length := by omega
      subst hkk
      rw [List.take_length] at hown
      by_cases h0 : l.length = 0
      · have hl : l = [] := List.eq_nil_of_length_eq_zero h0
        obtain ⟨A', c', rfl⟩ := own_form hown
        clear hown hbel
        subst hl
        go_wp2_with (go_at_call 14; refine (Tryd.strings_Join_none _ _ _ _).mono ?_; rintro e w' ⟨rfl, rfl⟩)
        go_ret
        exact ⟨rfl, HW.out⟩
      · obtain ⟨g, cap, cur, rfl, hb, hh, hcap, _, _, htk⟩ : ∃ g cap cur, u3 = .slice (some ⟨g, 0, none⟩) l.length cap ∧ w.heap.size ≤ g ∧ wr.heap[g]? = some (.cells cur 9 (0, 0)) ∧ l.length ≤ cap ∧ cap ≤ maxLen ∧ cur.size = cap * 1 ∧ cur.toList.take (l.length * 1) = textCells l := by
          rcases hown.2 with ⟨_, h⟩ | h
          · exact absurd h h0
          · exact h
        have J : Calls Tryd.prog 14 #[.slice (some ⟨g, 0, none⟩) l.length cap, .string ⟨#[32]⟩] wr fun e w' => e = .returned (.string ⟨(joined l).toArray⟩) ∧ Below wr.heap.size wr w' := by
          have hd : (l.map fun h => (⟨(textOf h).toArray⟩ : ByteArray)).map (·.data.toList) = l.map textOf := by
            rw [List.map_map]
            exact List.map_congr_left fun x _ => rfl
          have hj := Tryd.strings_Join g 0 cap (l.map fun h => ⟨(textOf h).toArray⟩) ⟨#[32]⟩ wr (fun j x hx => by
              have h1 := hown.cells (g := g) rfl j (.string x) (by
                unfold textCells
                rw [List.getElem?_map] at hx ⊢
                cases hlj : l[j]? with
                | none => rw [hlj] at hx; cases hx
                | some y => rw [hlj] at hx; simp at hx ⊢; exact hx)
              rw [Lib.add_plain] at h1
              exact h1)
            (Array.getElem?_eq_some_iff.1 hh).1 (by rw [List.length_map]; omega) (by rw [List.length_map]; exact hcap) (by
              rw [hd]
              have := joined_length l
              unfold joined at this
              show (Lib.join (l.map textOf) [32]).length ≤ _
              omega)
          rw [hd, List.length_map] at hj
          exact hj
        have HJ := Lib.hid J
        clear hown hbel J
        go_wp2_with (go_at_call 14; refine HJ.out.mono ?_; rintro e w' ⟨rfl, h2⟩)
        go_ret
        exact ⟨rfl, HW.out.trans (h2.mono hsz)⟩
end Go.Proofs.YthoaadfkainpkaaDoor
