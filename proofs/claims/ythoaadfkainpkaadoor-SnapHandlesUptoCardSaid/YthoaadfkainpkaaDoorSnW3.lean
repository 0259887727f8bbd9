/- WORDS, STILL MORE: a part of a block that is known whole stored at once; a block loaded at once. -/
import Derived.Test.YthoaadfkainpkaaDoorSnW2
import Derived.Deep.MidRow
namespace Go.Proofs.YthoaadfkainpkaaDoor
open Go.RowKit

theorem setCells_blk : ∀ (vs : List Value) (w : World) (g o : Nat) (t : TypeId) (l : List Value), Blk w g t l → o + vs.length ≤ l.length →
    Blk (w.setCells g o vs) g t (l.take o ++ vs ++ l.drop (o + vs.length)) ∧ w.grownBy (w.setCells g o vs) (some g) := by
  intro vs
  induction vs with
  | nil => intro w g o t l h hl; simp [World.setCells]; exact ⟨h, World.grownBy.refl _ _⟩
  | cons v r ih =>
    intro w g o t l h hl
    simp only [List.length_cons] at hl
    have h1 := h.set_ o v
    obtain ⟨h2, h3⟩ := ih (w.setCell ⟨g, o, none⟩ v) g (o + 1) t (l.set o v) h1 (by rw [List.length_set]; omega)
    refine ⟨?_, grown_trans (grown_set (World.grownBy.refl w (some g)) (p := ⟨g, o, none⟩) rfl v) h3⟩
    show Blk ((w.setCell ⟨g, o, none⟩ v).setCells g (o + 1) r) g t _
    refine Eq.mp (congrArg _ ?_) h2
    have e : l.set o v = l.take o ++ v :: l.drop (o + 1) := by rw [List.set_eq_take_append_cons_drop, if_pos (by omega)]
    have lo : (l.take o).length = o := by rw [List.length_take]; omega
    have e1 : (l.set o v).take (o + 1) = l.take o ++ [v] := by
      rw [e, List.take_append, lo, List.take_of_length_le (by omega), show o + 1 - o = 1 from by omega]
      rfl
    have e2 : (l.set o v).drop (o + 1 + r.length) = l.drop (o + (r.length + 1)) := by
      rw [e, List.drop_append, lo, List.drop_of_length_le (by omega), List.nil_append, show o + 1 + r.length - o = r.length + 1 from by omega, List.drop_succ_cons, List.drop_drop]
      congr 1
      omega
    rw [e1, e2]
    simp

theorem Blk.there {w : World} {g : Nat} {t : TypeId} {l : List Value} (h : Blk w g t l) {o n : Nat} (hl : o + n ≤ l.length) : w.there g o n := fun j hj =>
  ⟨by rw [h.cell, List.getElem?_eq_getElem (by omega)]; rfl, h.frozen _⟩

/-- A struct stored into a part of a block that is known whole. -/
theorem wpList_store_part {P : Program} {ops : Array Oper} {rest : List Oper} {o : Oper} {a : Act} {w : World} {Q : Exit → Act → World → Prop} (hgd : o.guard = none) (ty : TypeId) (x y : Operand) (ho : o.op = .store ty x y)
    (g off : Nat) (cells : List Value) (hx : a.eval x = .pointer (some ⟨g, off, none⟩)) (hy : a.eval y = .agg cells.toArray) (hi : (P.info? ty).map (·.size) = some cells.length) (h1 : ∀ v ∈ cells, v.oneCell' = true)
    (t : TypeId) (l : List Value) (hB : Blk w g t l) (hl : off + cells.length ≤ l.length)
    (h : ∀ w', Blk w' g t (l.take off ++ cells ++ l.drop (off + cells.length)) → w.grownBy w' (some g) → wpList P ops Q rest (a.put o.dst undef) w') : wpList P ops Q (o :: rest) a w := by
  obtain ⟨h2, h3⟩ := setCells_blk cells w g off t l hB hl
  refine wpList_store_mid hgd ty x y ho g off cells.toArray hx hy ?_ (by simpa using hi) (all_oneCell_toArray h1) ?_
  · simpa using hB.there hl
  · exact h _ h2 h3
/-- A block that is known whole, loaded. -/
theorem wpList_load_blk {P : Program} {ops : Array Oper} {rest : List Oper} {o : Oper} {a : Act} {w : World} {Q : Exit → Act → World → Prop} (hgd : o.guard = none) (ty : TypeId) (x : Operand) (ho : o.op = .load ty x)
    (g : Nat) (hx : a.eval x = .pointer (some ⟨g, 0, none⟩)) (t : TypeId) (l : List Value) (hB : Blk w g t l) (d : TypeDesc) (hu : P.underlying ty = some d) (hd : (match d with | .struct _ | .array _ _ => true | _ => false) = true)
    (hi : (P.info? ty).map (·.size) = some l.length) (h : wpList P ops Q rest (a.put o.dst (.agg l.toArray)) w) : wpList P ops Q (o :: rest) a w :=
  wpList_load_row hgd ty x ho g hx t l.toArray (0, 0) d hB hu hd (by simpa using hi) h
/-- 'append(out, x)', one struct, out a row of the call's own. -/
theorem appN {P : Program} (w : World) {ops : Array Oper} {rest : List Oper} {o : Oper} {a : Act} {Q : Exit → Act → World → Prop} (hgd : o.guard = none) (s x : Operand) (t : TypeId)
    (ho : o.op = .call { callee := .builtin .append, args := #[s, x], argTypes := #[t, t] })
    (base : Nat) (e : TypeId) (z : Value) (sz bytes : Nat) (ht : P.underlying t = some (.slice e)) (hinfo : (P.info? e).map (fun i => (i.zero, i.size, i.bytes)) = some (some z, sz, bytes)) (hzs : z.cells.size = sz) (h0 : 0 < sz)
    (v : Value) (n : Nat) (xs : List Value) (hs : a.eval s = v) (hown : w.ownsRow base e sz v n xs)
    (g c : Nat) (l : List Value) (hx : a.eval x = .slice (some ⟨g, 0, none⟩) 1 c) (hB : Blk w g e l) (hl : l.length = sz) (h1 : ∀ u ∈ l, u.oneCell' = true)
    (hb : bytes ≤ 1024) (hn : n ≤ 1000000000) (hbase : base ≤ w.heap.size)
    (h : ∀ v' w', w'.ownsRow base e sz v' (n + 1) (xs ++ l) → w.grownBy w' v.ownBlock → wpList P ops Q rest (a.put o.dst v') w') : wpList P ops Q (o :: rest) a w := by
  obtain ⟨i, hi, hz, hsz, hby⟩ := info_parts hinfo
  refine wpList_append_own w hgd s x t ho base e i z sz bytes ht hi hz hsz hby hzs h0 v n xs hs hown ⟨g, 0, none⟩ 1 c l hx (by omega) ?_ h1 ?_ ?_ hbase fun v' w' h2 h3 _ => h v' w' h2 h3
  · intro j y hj
    have hadd : (⟨g, 0, none⟩ : Addr).add j = ⟨g, j, none⟩ := by unfold Addr.add; split <;> simp_all
    rw [hadd]
    exact hB.at_ hj
  · simp only [maxLen]; omega
  · have : (n + 1) * bytes ≤ (n + 1) * 1024 := Nat.mul_le_mul_left _ hb
    omega
/-- One struct in an owned row: where it lies. -/
theorem own_oneN {w : World} {base : Nat} {e : TypeId} {sz : Nat} {v : Value} {l : List Value} (h : w.ownsRow base e sz v 1 l) :
    ∃ g c, v = .slice (some ⟨g, 0, none⟩) 1 c ∧ base ≤ g ∧ g < w.heap.size ∧ ∀ (j : Nat) (u : Value), l[j]? = some u → w.cell? ⟨g, j, none⟩ = some u := by
  rcases h.2 with ⟨_, h1⟩ | ⟨g, cap, cur, hv, hb, hh, _⟩
  · cases h1
  · subst hv
    refine ⟨g, cap, rfl, hb, (Array.getElem?_eq_some_iff.1 hh).1, fun j u hj => ?_⟩
    have hadd : (⟨g, 0, none⟩ : Addr).add j = ⟨g, j, none⟩ := by unfold Addr.add; split <;> simp_all
    have := h.cells (g := g) rfl j u hj
    rwa [hadd] at this
end Go.Proofs.YthoaadfkainpkaaDoor
