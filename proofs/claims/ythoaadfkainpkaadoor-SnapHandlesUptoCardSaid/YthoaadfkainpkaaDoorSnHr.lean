/- The document's answer for the text of all handles; SnapHandles. -/
import Derived.Test.YthoaadfkainpkaaDoorSnO
import Derived.Test.YthoaadfkainpkaaDoorSnZ
import Derived.Lib.AppendIntMem
import Derived.Lib.AppendStr
import Derived.Lib.BufferRead
namespace Go.Proofs.YthoaadfkainpkaaDoor
open Go.RowKit
set_option linter.unusedVariables false

theorem joinTail_snoc (r : List (List UInt8)) (y : List UInt8) : Lib.joinTail [32] (r ++ [y]) = Lib.joinTail [32] r ++ ([32] ++ y) := by simp [Lib.joinTail]
theorem joined_take (l : List Int) {k : Nat} {x : Int} (h : l[k]? = some x) : joined (l.take (k + 1)) = joined (l.take k) ++ ((if k = 0 then [] else [32]) ++ textOf x) := by
  rw [List.take_add_one, h]
  cases l with
  | nil => simp at h
  | cons z l =>
    cases k with
    | zero =>
      simp at h
      subst h
      simp [joined, Lib.join_nil, Lib.join_one]
    | succ k =>
      unfold joined
      simp only [List.take_succ_cons, List.map_cons, List.map_append, Option.toList_some, List.map_nil, List.cons_append, Lib.join_cons]
      rw [joinTail_snoc]
      simp

/-- 'string(b)', b a row of the call's own that holds the bytes l. -/
theorem own_string {P : Program} {w : World} {B : Nat} {v : Value} {l : List UInt8} {e src dst : TypeId} (hs : P.underlying src = some (.slice e)) (he : P.underlying e = some (.int .u8)) (hd : P.underlying dst = some .string)
    (h : w.ownsRow B e 1 v l.length (Lib.byteCells l)) : (convert src dst v).run P w = .ok (.string ⟨l.toArray⟩) w := by
  rcases h.2 with ⟨rfl, h0⟩ | ⟨g, cap, cur, rfl, _, hh, _, _, _, htk⟩
  · have hl : l = [] := List.eq_nil_of_length_eq_zero h0
    subst hl
    exact Lib.run_convert_nil_bytes w src dst e 0 hs he hd
  · exact run_convert_bytes_back w src dst e ⟨g, 0, none⟩ cap l hs he hd (Lib.bytes_of_row hh (by simpa using htk))
theorem byteCells_app (a b : List UInt8) : Lib.byteCells (a ++ b) = Lib.byteCells a ++ Lib.byteCells b := by simp [Lib.byteCells]
theorem strCells_mk (l : List UInt8) : Lib.strCells ⟨l.toArray⟩ = Lib.byteCells l := by simp [Lib.strCells, Lib.byteCells]
theorem size_mk (l : List UInt8) : (⟨l.toArray⟩ : ByteArray).size = l.length := by simp [ByteArray.size]

/-- 'append(b, s...)', s a string. -/
theorem appS {P : Program} (w : World) {ops : Array Oper} {rest : List Oper} {o : Oper} {a : Act} {Q : Exit → Act → World → Prop} (hgd : o.guard = none) (s x : Operand) (t u : TypeId)
    (ho : o.op = .call { callee := .builtin .append, args := #[s, x], argTypes := #[t, u] })
    (base : Nat) (e : TypeId) (ht : P.underlying t = some (.slice e)) (hu : P.underlying u = some .string) (hinfo : (P.info? e).map (fun i => (i.zero, i.size, i.bytes)) = some (some (.int .u8 0), 1, 1))
    (v : Value) (l : List UInt8) (hs : a.eval s = v) (hown : w.ownsRow base e 1 v l.length (Lib.byteCells l))
    (m : List UInt8) (hx : a.eval x = .string ⟨m.toArray⟩) (hn : l.length + m.length ≤ 100000000000000) (hbase : base ≤ w.heap.size)
    (h : ∀ v' w', w'.ownsRow base e 1 v' (l ++ m).length (Lib.byteCells (l ++ m)) → w.grownBy w' v.ownBlock → wpList P ops Q rest (a.put o.dst v') w') : wpList P ops Q (o :: rest) a w := by
  obtain ⟨i, hi, hz, hsz, hby⟩ := info_parts hinfo
  refine Lib.wpList_append_own_string w hgd s x t u ho base e i ht hu hi hz hsz hby v l.length (Lib.byteCells l) hs hown ⟨m.toArray⟩ hx (by rw [size_mk]; unfold maxLen; omega) (by rw [size_mk]; omega) hbase fun v' w' h2 h3 _ => h v' w' ?_ h3
  rw [strCells_mk, size_mk, ← byteCells_app, ← List.length_append] at h2
  exact h2

set_option maxHeartbeats 4000000 in
set_option maxRecDepth 100000 in
theorem refHandles {v : Value} {l : List Int} {w : World} (hv : IntsIn w v l) (hn : l.length ≤ 2000000) :
    Calls Tryd.prog 9 #[v] w fun e w' => e = .returned (.string ⟨(joined l).toArray⟩) ∧ Below w.heap.size w w' := by
  obtain ⟨A, c, rfl⟩ : ∃ A c, v = .slice A l.length c := by
    rcases hv with ⟨rfl, A, c, rfl⟩ | ⟨g, o, c, rfl, _⟩
    · exact ⟨A, c, rfl⟩
    · exact ⟨_, c, rfl⟩
  have HV := Lib.hid hv
  clear hv
  go_enter Tryd.func9, Tryd.ntmps9
  go_wp2
  go_loopw [3, 4] (fun u i wr => ∃ k : Nat, k ≤ l.length ∧ i = .int .i64 k ∧ wr.ownsRow w.heap.size 5 1 u (joined (l.take k)).length (Lib.byteCells (joined (l.take k))) ∧ Below w.heap.size w wr) (fun _ i _ => l.length - (intOf i).toNat)
  case atStart => exact ⟨0, by omega, rfl, by rw [List.take_zero]; exact own_nil _ _ _ _, Below.refl _ _⟩
  case round =>
    obtain ⟨k, hk, rfl, hown, hbel⟩ := hrel
    have hsz : w.heap.size ≤ wr.heap.size := hbel.size
    have HO := Lib.hid hown
    have HW := Lib.hid hbel
    have hjl := joined_length (l.take k)
    have hjk : (l.take k).length ≤ l.length := by rw [List.length_take]; omega
    by_cases e : k < l.length
    · obtain ⟨x, hx⟩ : ∃ x, l[k]? = some x := ⟨_, List.getElem?_eq_getElem e⟩
      obtain ⟨g, o, hA, c0⟩ : ∃ g o, A = some ⟨g, o, none⟩ ∧ ∀ W, Below w.heap.size w W → W.cell? ⟨g, o + k, none⟩ = some (.int .i64 x) := by
        rcases HV.out with ⟨hl, _⟩ | ⟨g, o, c', hv, hg, hc⟩
        · simp [hl] at e
        · injection hv with h1 h2 h3
          exact ⟨g, o, h1, fun W hW => (hW.cell (p := ⟨g, o + k, none⟩) hg).trans (hc k x hx)⟩
      have hjt := Lib.hid (joined_take l hx)
      have HC := Lib.hid c0
      have htl := textOf_length x
      clear hown hbel c0
      subst hA
      generalize joined (l.take k) = J at *
      have HX := Lib.hid hx
      clear hx
      by_cases h0 : k = 0
      · subst h0
        have cx : wr.cell? ⟨g, o, none⟩ = some (.int .i64 x) := HC.out _ HW.out
        go_wp2_with fail
        refine (refText x _).mono ?_
        rintro e w1 ⟨rfl, h1⟩
        have HO1 := Lib.hid (own_on HO.out h1)
        have HW1 := Lib.hid (HW.out.trans (h1.mono hsz))
        have hsz1 := Nat.le_trans hsz h1.size
        clear h1
        go_wp2_with (at_builtin
                     refine appS _ rfl _ _ 37 9 rfl w.heap.size 5 Tryd.underlying37 Tryd.underlying9 infoU8 _ _ rfl HO1.out (textOf x) rfl (by omega) hsz1 ?_
                     intro v' w2 hown1 hg1
                     have HO2 := Lib.hid hown1
                     have HG2 := Lib.hid hg1
                     clear hown1 hg1)
        go_roundw
        case rel =>
          have ej : joined (l.take (0 + 1)) = J ++ textOf x := by rw [hjt.out]; simp
          refine ⟨0 + 1, by omega, by go_num, ?_, ?_⟩
          · rw [ej]; exact HO2.out
          · exact HW1.out.grown HG2.out hsz1 (own_from HO1.out)
        case measure => simp [intOf]; omega
      · have hkp : 0 < k := by omega
        go_wp2_with (at_builtin
                     refine app1 _ rfl _ _ 37 rfl w.heap.size 5 _ 1 Tryd.underlying37 infoU8 rfl _ _ _ rfl (HO.out.alloc _) wr.heap.size 1 (.int .u8 32) rfl
                       (cell_new _ _ _ rfl) rfl (by omega) (by omega) (by rw [size_alloc]; omega) ?_
                     intro v' w2 hown1 hg1
                     have HO2 := Lib.hid (own_len hown1 (show J.length + 1 = (J ++ [32]).length by simp) (show Lib.byteCells J ++ [Value.int .u8 32] = Lib.byteCells (J ++ [32]) by rw [byteCells_app]; rfl))
                     have HB2 := Lib.hid ((HW.out.alloc hsz _).grown hg1 (by rw [size_alloc]; omega) (own_from HO.out))
                     have cx := HC.out _ HB2.out
                     have hsz2 := HB2.out.size
                     clear hown1 hg1)
        refine (refText x _).mono ?_
        rintro e w3 ⟨rfl, h1⟩
        have HO3 := Lib.hid (own_on HO2.out h1)
        have HB3 := Lib.hid (HB2.out.trans (h1.mono hsz2))
        have hsz3 := Nat.le_trans hsz2 h1.size
        clear h1
        go_wp2_with (at_builtin
                     refine appS _ rfl _ _ 37 9 rfl w.heap.size 5 Tryd.underlying37 Tryd.underlying9 infoU8 _ (J ++ [32]) rfl HO3.out (textOf x) rfl (by rw [List.length_append, List.length_singleton]; omega) hsz3 ?_
                     intro v'' w4 hown1 hg1
                     have HO4 := Lib.hid hown1
                     have HG4 := Lib.hid hg1
                     clear hown1 hg1)
        go_roundw
        case rel =>
          have ej : joined (l.take (k + 1)) = J ++ [32] ++ textOf x := by rw [hjt.out, if_neg h0]; simp
          refine ⟨k + 1, by omega, by go_num, ?_, ?_⟩
          · rw [ej]; exact HO4.out
          · exact HB3.out.grown HG4.out hsz3 (own_from HO3.out)
        case measure => simp [intOf]; omega
    · have hkk : k = l.length := by omega
      subst hkk
      rw [List.take_length] at hown
      have hst := own_string (dst := 9) Tryd.underlying37 Tryd.underlying5 Tryd.underlying9 hown
      clear hown hbel
      go_wp2
      go_ret
      exact ⟨rfl, HW.out⟩

theorem snapHandles {v : Value} {l : List Int} {w : World} (hv : IntsIn w v l) (hn : l.length ≤ 2000000) (ht : Tabs w) : Calls Tryd.prog 4 #[v] w fun e w' => e = .returned (.bool true) ∧ Below w.heap.size w w' := by
  have HT := Lib.hid ht
  have HV := Lib.hid hv
  clear ht hv
  go_enter Tryd.func4, Tryd.ntmps4
  go_wp2_with fail
  refine (handlesW HV.out hn HT.out.pow).mono ?_
  rintro e w1 ⟨rfl, h1⟩
  have HV1 := Lib.hid (HV.out.below h1)
  have HT1 := Lib.hid (HT.out.below h1)
  go_wp2_with fail
  refine (refHandles HV1.out hn).mono ?_
  rintro e w2 ⟨rfl, h2⟩
  have HT2 := Lib.hid (HT1.out.below h2)
  go_wp2_with fail
  refine (sure0 _ HT2.out).mono ?_
  rintro e w3 ⟨rfl, h3⟩
  go_wp2
  go_ret
  exact ⟨rfl, h1.trans ((h2.trans (h3.mono h2.size)).mono h1.size)⟩
end Go.Proofs.YthoaadfkainpkaaDoor
