/- The state of a new kernel. -/
import Derived.Test.YthoaadfkainpkaaDoorSnQ
import Derived.Deep.RegionHeld3
import Derived.Test.YthoaadfkainpkaaDoorSnW3
namespace Go.Proofs.YthoaadfkainpkaaDoor
open Go.RowKit
set_option linter.unusedVariables false
set_option linter.unusedSimpArgs false
variable {w : World} {k gT gL gN gF gB gM gP gQ gR : Nat}

/-- A whole value stored into the block that was just made. -/
theorem alloc_setRow (w : World) (old cells : Array Value) (t : TypeId) : (w.alloc (.cells old t)).setRow w.heap.size cells = w.alloc (.cells cells t) := by
  unfold World.setRow World.alloc
  congr 1
  apply Array.ext_getElem?
  intro i
  rw [Array.getElem?_modify, Array.getElem?_push, Array.getElem?_push]
  by_cases e : i = w.heap.size
  · subst e; simp
  · rw [if_neg (fun h => e h.symm)]
    simp [e]
theorem wp_store_new {P : Program} {o : Oper} {a : Act} {w : World} {K : Act → World → Prop} {Q : Exit → Act → World → Prop} (ty : TypeId) (x y : Operand) (ho : o.op = .store ty x y)
    (g : Nat) (cells : Array Value) (hx : a.eval x = .pointer (some ⟨g, 0, none⟩)) (hy : a.eval y = .agg cells) (hgw : g = w.heap.size)
    (t : TypeId) (old : Array Value) (hi : (P.info? ty).map (·.size) = some cells.size) (hold : old.size = cells.size) (h1 : cells.all (·.oneCell') = true)
    (h : K (a.put o.dst undef) (w.alloc (.cells cells t))) : o.wp P a (w.alloc (.cells old t)) K Q := by
  subst hgw
  exact wp_store_row ty x y ho w.heap.size cells hx hy t old (heap_alloc_new w _) hi hold h1 (by rw [alloc_setRow]; exact h)
theorem alloc_setRowD (w : World) (old cells : Array Value) (t : TypeId) : ((w.alloc (.cells old t)).drew).setRow w.heap.size cells = (w.alloc (.cells cells t)).drew := by
  have h := alloc_setRow w old cells t
  unfold World.setRow World.alloc World.drew at *
  simp only [World.mk.injEq] at h ⊢
  simpa using h
theorem wp_store_newD {P : Program} {o : Oper} {a : Act} {w : World} {K : Act → World → Prop} {Q : Exit → Act → World → Prop} (ty : TypeId) (x y : Operand) (ho : o.op = .store ty x y)
    (g : Nat) (cells : Array Value) (hx : a.eval x = .pointer (some ⟨g, 0, none⟩)) (hy : a.eval y = .agg cells) (hgw : g = w.heap.size)
    (t : TypeId) (old : Array Value) (hi : (P.info? ty).map (·.size) = some cells.size) (hold : old.size = cells.size) (h1 : cells.all (·.oneCell') = true)
    (h : K (a.put o.dst undef) (w.alloc (.cells cells t)).drew) : o.wp P a (w.alloc (.cells old t)).drew K Q := by
  subst hgw
  exact wp_store_row ty x y ho w.heap.size cells hx hy t old (heap_alloc_new w _) hi hold h1 (by rw [alloc_setRowD]; exact h)
theorem wpList_store_new {P : Program} {ops : Array Oper} {rest : List Oper} {o : Oper} {a : Act} {w : World} {Q : Exit → Act → World → Prop} (hgd : o.guard = none) (ty : TypeId) (x y : Operand) (ho : o.op = .store ty x y)
    (g : Nat) (cells : Array Value) (hx : a.eval x = .pointer (some ⟨g, 0, none⟩)) (hy : a.eval y = .agg cells) (hgw : g = w.heap.size)
    (t : TypeId) (old : Array Value) (hi : (P.info? ty).map (·.size) = some cells.size) (hold : old.size = cells.size) (h1 : cells.all (·.oneCell') = true)
    (h : wpList P ops Q rest (a.put o.dst undef) (w.alloc (.cells cells t))) : wpList P ops Q (o :: rest) a (w.alloc (.cells old t)) :=
  wpList_plain hgd fun _ hK => wp_store_new ty x y ho g cells hx hy hgw t old hi hold h1 (hK _ _ h)

/-- A slice of whole numbers that reads as l, its block from lo on. -/
def IntsAt (w : World) (lo : Nat) (v : Value) (l : List Int) : Prop :=
  (l = [] ∧ ∃ A c, v = .slice A 0 c) ∨ ∃ g c, v = .slice (some ⟨g, 0, none⟩) l.length c ∧ lo ≤ g ∧ g < w.heap.size ∧ ∀ (i : Nat) (x : Int), l[i]? = some x → w.cell? ⟨g, i, none⟩ = some (.int .i64 x)
theorem IntsAt.below {w w' : World} {lo : Nat} {v : Value} {l : List Int} (h : IntsAt w lo v l) (hb : Below w.heap.size w w') : IntsAt w' lo v l := by
  rcases h with h | ⟨g, c, hv, hl, hg, hc⟩
  · exact .inl h
  · exact .inr ⟨g, c, hv, hl, Nat.lt_of_lt_of_le hg hb.size, fun i x hx => (hb.cell (p := ⟨g, i, none⟩) hg).trans (hc i x hx)⟩
theorem IntsAt.lower {w : World} {lo lo' : Nat} {v : Value} {l : List Int} (h : IntsAt w lo v l) (hl : lo' ≤ lo) : IntsAt w lo' v l := by
  rcases h with h | ⟨g, c, hv, hl', hg, hc⟩
  · exact .inl h
  · exact .inr ⟨g, c, hv, by omega, hg, hc⟩
theorem IntsAt.set {w : World} {lo : Nat} {v : Value} {l : List Int} (h : IntsAt w lo v l) {p : Addr} (hp : p.block < lo) (u : Value) : IntsAt (w.setCell p u) lo v l := by
  rcases h with h | ⟨g, c, hv, hl, hg, hc⟩
  · exact .inl h
  · refine .inr ⟨g, c, hv, hl, by rw [size_set]; exact hg, fun i x hx => ?_⟩
    rw [World.cell?_setCell_other w p _ u (fun e => by subst e; simp at hp; omega)]
    exact hc i x hx
theorem IntsAt.of_own {w : World} {base : Nat} {e : TypeId} {v : Value} {n : Nat} {l : List Int} (h : w.ownsRow base e 1 v n (ints l)) : IntsAt w base v l := by
  have hl : l.length = n := by have := h.1; simp [ints] at this; omega
  rcases h.2 with ⟨hv, h0⟩ | ⟨g, cap, cur, hv, hb, hh, _⟩
  · exact .inl ⟨List.eq_nil_of_length_eq_zero (by omega), none, 0, hv⟩
  · refine .inr ⟨g, cap, by rw [hv, hl], hb, (Array.getElem?_eq_some_iff.1 hh).1, fun i x hx => ?_⟩
    have := h.cells (g := g) (by rw [hv]; rfl) i (.int .i64 x) (by simp [ints, hx])
    have hadd : (⟨g, 0, none⟩ : Addr).add i = ⟨g, i, none⟩ := by unfold Addr.add; split <;> simp_all
    rwa [hadd] at this
theorem IntsAt.grown {w w' : World} {lo b : Nat} {v : Value} {l : List Int} (h : IntsAt w lo v l) (hg : w.grownBy w' (some b)) (hb : b < lo) : IntsAt w' lo v l := by
  rcases h with h | ⟨g, c, hv, hl, hgs, hc⟩
  · exact .inl h
  · exact .inr ⟨g, c, hv, hl, Nat.lt_of_lt_of_le hgs hg.size, fun i x hx => hg.cell (a := ⟨g, i, none⟩) (hc i x hx) (by simp; omega)⟩
theorem gensTo_ints (n : Nat) : gensTo (fun _ => 1) n = ints ((List.range n).map fun _ => 1) := by simp [gensTo, ints]
/-- Bools that read as f says, their block from lo on. -/
def BoolsAt (w : World) (lo : Nat) (v : Value) (n : Nat) (f : Nat → Bool) : Prop := ∃ g c, v = .slice (some ⟨g, 0, none⟩) n c ∧ lo ≤ g ∧ g < w.heap.size ∧ ∀ i : Nat, i < n → w.cell? ⟨g, i, none⟩ = some (.bool (f i))
theorem BoolsAt.below {w w' : World} {lo : Nat} {v : Value} {n : Nat} {f : Nat → Bool} (h : BoolsAt w lo v n f) (hb : Below w.heap.size w w') : BoolsAt w' lo v n f := by
  obtain ⟨g, c, hv, hl, hg, hc⟩ := h
  exact ⟨g, c, hv, hl, Nat.lt_of_lt_of_le hg hb.size, fun i hi => (hb.cell (p := ⟨g, i, none⟩) hg).trans (hc i hi)⟩
theorem BoolsAt.lower {w : World} {lo lo' : Nat} {v : Value} {n : Nat} {f : Nat → Bool} (h : BoolsAt w lo v n f) (hl : lo' ≤ lo) : BoolsAt w lo' v n f := by
  obtain ⟨g, c, hv, hl', hg, hc⟩ := h
  exact ⟨g, c, hv, by omega, hg, hc⟩
theorem BoolsAt.set {w : World} {lo : Nat} {v : Value} {n : Nat} {f : Nat → Bool} (h : BoolsAt w lo v n f) {p : Addr} (hp : p.block < lo) (u : Value) : BoolsAt (w.setCell p u) lo v n f := by
  obtain ⟨g, c, hv, hl, hg, hc⟩ := h
  refine ⟨g, c, hv, hl, by rw [size_set]; exact hg, fun i hi => ?_⟩
  rw [World.cell?_setCell_other w p _ u (fun e => by subst e; simp at hp; omega)]
  exact hc i hi
theorem BoolsAt.grown {w w' : World} {lo b : Nat} {v : Value} {n : Nat} {f : Nat → Bool} (h : BoolsAt w lo v n f) (hg : w.grownBy w' (some b)) (hb : b < lo) : BoolsAt w' lo v n f := by
  obtain ⟨g, c, hv, hl, hgs, hc⟩ := h
  exact ⟨g, c, hv, hl, Nat.lt_of_lt_of_le hgs hg.size, fun i hi => hg.cell (a := ⟨g, i, none⟩) (hc i hi) (by simp; omega)⟩
theorem BoolsAt.of_own {w : World} {base : Nat} {e : TypeId} {v : Value} {n : Nat} {f : Nat → Bool} (h0 : 0 < n) (h : w.ownsRow base e 1 v n (takenTo f n)) : BoolsAt w base v n f := by
  rcases h.2 with ⟨hv, h1⟩ | ⟨g, cap, cur, hv, hb, hh, _⟩
  · omega
  · refine ⟨g, cap, hv, hb, (Array.getElem?_eq_some_iff.1 hh).1, fun i hi => ?_⟩
    have := h.cells (g := g) (by rw [hv]; rfl) i (.bool (f i)) (by simp [takenTo, hi])
    have hadd : (⟨g, 0, none⟩ : Addr).add i = ⟨g, i, none⟩ := by unfold Addr.add; split <;> simp_all
    rwa [hadd] at this

/-- The cells of the root's state. -/
def rootState : List Value := [.int .i64 rootH, .int .i64 0, .int .i64 0, .int .i64 0, .int .i64 0, .int .i64 0, .bool false, .int .i64 0, .int .i64 0, .int .i64 0, .int .i64 0,
  .int .i64 0, .int .i64 0, .int .i64 0, .int .i64 0, .int .i64 0, .int .i64 0, .int .i64 0, .int .i64 0, .int .i64 0, .int .i64 0, .int .i64 0, .int .i64 0, .slice none 0 0, .slice none 0 0, .slice none 0 0]
theorem infoS : (Tryd.prog.info? 79).map (fun i => (i.zero, i.size, i.bytes)) = some (some (.agg #[.int .i64 0, .int .i64 0, .int .i64 0, .int .i64 0, .int .i64 0, .int .i64 0, .bool false, .int .i64 0, .int .i64 0, .int .i64 0, .int .i64 0, .int .i64 0, .int .i64 0, .int .i64 0, .int .i64 0, .int .i64 0, .int .i64 0, .int .i64 0, .int .i64 0, .int .i64 0, .int .i64 0, .int .i64 0, .int .i64 0, .slice none 0 0, .slice none 0 0, .slice none 0 0]), 26, 256) := by kernel_rfl

/-- What State hands back of a new kernel. -/
def StateOf0 (B : Nat) (w : World) (e : Ending) (w' : World) : Prop := ∃ vg gn cn vsg vst, e = .returned (.agg #[.int .i64 0, .int .i64 0, vg, .slice (some ⟨gn, 0, none⟩) 1 cn, vsg, vst, .slice none 0 0, .int .i64 (-1)]) ∧
  IntsAt w' B vg ((List.range 64).map fun _ => 1) ∧ gn < w'.heap.size ∧ (∀ (j : Nat) (u : Value), rootState[j]? = some u → w'.cell? ⟨gn, j, none⟩ = some u) ∧ IntsAt w' B vsg ((List.range 16).map fun _ => 1) ∧ BoolsAt w' B vst 16 (fun _ => false) ∧ Below B w w'

set_option maxHeartbeats 4000000 in
set_option maxRecDepth 100000 in
theorem state0 (h : KAt w k gT gL gN gF gB gM gP gQ gR) : Calls Tryd.prog 21 #[.pointer (some ⟨k, 0, none⟩)] w (StateOf0 w.heap.size w) := by
  have k4 := h.kern.at_ (i := 4) rfl
  have k5 := h.kern.at_ (i := 5) rfl
  have k0 := h.kern.at_ (i := 0) rfl
  have hlk := h.kern.lt
  have HK := Lib.hid h
  clear h
  go_enter Tryd.func21, Tryd.ntmps21
  go_wp2
  go_region
  go_wp2_with fail
  have BR : Blk ((w.alloc (.cells #[.int .i64 0, .int .i64 0, .slice none 0 0, .slice none 0 0, .slice none 0 0, .slice none 0 0, .slice none 0 0, .int .i64 0] 67)).alloc (.cells #[.int .i64 0, .int .i64 0, .slice none 0 0, .slice none 0 0, .slice none 0 0, .slice none 0 0, .slice none 0 0, .int .i64 0] 67)).drew w.heap.size 67 [.int .i64 0, .int .i64 0, .slice none 0 0, .slice none 0 0, .slice none 0 0, .slice none 0 0, .slice none 0 0, .int .i64 0] := ((Blk.newA w #[.int .i64 0, .int .i64 0, .slice none 0 0, .slice none 0 0, .slice none 0 0, .slice none 0 0, .slice none 0 0, .int .i64 0] 67).alloc _).drew
  have BS : Blk ((w.alloc (.cells #[.int .i64 0, .int .i64 0, .slice none 0 0, .slice none 0 0, .slice none 0 0, .slice none 0 0, .slice none 0 0, .int .i64 0] 67)).alloc (.cells #[.int .i64 0, .int .i64 0, .slice none 0 0, .slice none 0 0, .slice none 0 0, .slice none 0 0, .slice none 0 0, .int .i64 0] 67)).drew (w.heap.size + 1) 67 [.int .i64 0, .int .i64 0, .slice none 0 0, .slice none 0 0, .slice none 0 0, .slice none 0 0, .slice none 0 0, .int .i64 0] := (Blk.newA' (w.alloc (.cells #[.int .i64 0, .int .i64 0, .slice none 0 0, .slice none 0 0, .slice none 0 0, .slice none 0 0, .slice none 0 0, .int .i64 0] 67)) #[.int .i64 0, .int .i64 0, .slice none 0 0, .slice none 0 0, .slice none 0 0, .slice none 0 0, .slice none 0 0, .int .i64 0] 67 (by simp)).drew
  have B0 := Lib.hid ((((Below.refl w.heap.size w).alloc (Nat.le_refl _) (.cells #[.int .i64 0, .int .i64 0, .slice none 0 0, .slice none 0 0, .slice none 0 0, .slice none 0 0, .slice none 0 0, .int .i64 0] 67)).alloc (by simp) (.cells #[.int .i64 0, .int .i64 0, .slice none 0 0, .slice none 0 0, .slice none 0 0, .slice none 0 0, .slice none 0 0, .int .i64 0] 67)).drew)
  have z0 : ((w.alloc (.cells #[.int .i64 0, .int .i64 0, .slice none 0 0, .slice none 0 0, .slice none 0 0, .slice none 0 0, .slice none 0 0, .int .i64 0] 67)).alloc (.cells #[.int .i64 0, .int .i64 0, .slice none 0 0, .slice none 0 0, .slice none 0 0, .slice none 0 0, .slice none 0 0, .int .i64 0] 67)).drew.heap.size = w.heap.size + 2 := by rw [size_drew, size_alloc, size_alloc]
  clear k4 k5 k0
  generalize ((w.alloc (.cells #[.int .i64 0, .int .i64 0, .slice none 0 0, .slice none 0 0, .slice none 0 0, .slice none 0 0, .slice none 0 0, .int .i64 0] 67)).alloc (.cells #[.int .i64 0, .int .i64 0, .slice none 0 0, .slice none 0 0, .slice none 0 0, .slice none 0 0, .slice none 0 0, .int .i64 0] 67)).drew = W0 at *
  have K0 := Lib.hid (HK.out.below B0.out)
  refine (slotsN K0.out.tab (by omega)).mono ?_
  rintro e w1 ⟨vg, vtk, rfl, a1, _, a3⟩
  have hs1 := a3.size
  have BR1 := Lib.hid (BR.below a3 (by omega))
  have BS1 := Lib.hid (BS.below a3 (by omega))
  have B1 := Lib.hid (B0.out.trans (a3.mono (by omega)))
  have hk1 := (HK.out.below B1.out).kern.at_ (i := 0) rfl
  have A1 := Lib.hid ((IntsAt.of_own (by rw [gensTo_ints] at a1; exact a1)).lower (lo' := w.heap.size + 2) (by omega))
  have hs0 : w.heap.size + 2 ≤ w1.heap.size := by omega
  obtain ⟨Ag, cg, rfl⟩ := own_form a1
  clear BR BS K0 B0 a1 a3 z0
  have s2 := BS1.out.at_ (i := 2) rfl
  have fs2 := BS1.out.frozen 2
  go_wp2_with fail
  have BR2 := Lib.hid (BR1.out.far (p := ⟨w.heap.size + 1, 2, none⟩) (by simp) (.slice Ag 64 cg))
  have BS2 := Lib.hid (BS1.out.set_ 2 (.slice Ag 64 cg))
  have B2 := Lib.hid (B1.out.setCell (p := ⟨w.heap.size + 1, 2, none⟩) (by simp) (.slice Ag 64 cg))
  have A2 := Lib.hid (A1.out.set (p := ⟨w.heap.size + 1, 2, none⟩) (by simp) (.slice Ag 64 cg))
  clear s2 fs2 BR1 BS1 B1 A1 hk1
  have hz : (w1.setCell ⟨w.heap.size + 1, 2, none⟩ (.slice Ag 64 cg)).heap.size = w1.heap.size := size_set _ _ _
  generalize w1.setCell ⟨w.heap.size + 1, 2, none⟩ (.slice Ag 64 cg) = W2 at *
  have hsz2 : w.heap.size + 2 ≤ W2.heap.size := by omega
  clear hz hs1
  refine (all0 (HK.out.below B2.out)).mono ?_
  rintro e w3 ⟨ga, ca, rfl, a1, a2⟩
  have hs3 := a2.size
  have BR3 := Lib.hid (BR2.out.below a2 (by omega))
  have BS3 := Lib.hid (BS2.out.below a2 (by omega))
  have B3 := Lib.hid (B2.out.trans (a2.mono (by omega)))
  have A3 := Lib.hid (A2.out.below a2)
  have hga : ga < w3.heap.size := by
    rcases Nat.lt_or_ge ga w3.heap.size with a | a
    · exact a
    · simp [World.cell?, Array.getElem?_eq_none a] at a1
  clear BR2 BS2 B2 A2 a2
  go_wp2
  go_loopw [33] (fun u wr => ∃ i : Nat, i ≤ 1 ∧ u = .int .i64 i ∧ Below w.heap.size w wr ∧ w.heap.size + 2 ≤ wr.heap.size ∧ Blk wr w.heap.size 67 [.int .i64 0, .int .i64 0, .slice none 0 0, .slice none 0 0, .slice none 0 0, .slice none 0 0, .slice none 0 0, .int .i64 0] ∧ IntsAt wr (w.heap.size + 2) (.slice Ag 64 cg) ((List.range 64).map fun _ => 1) ∧
      (i = 0 → Blk wr (w.heap.size + 1) 67 [.int .i64 0, .int .i64 0, .slice Ag 64 cg, .slice none 0 0, .slice none 0 0, .slice none 0 0, .slice none 0 0, .int .i64 0] ∧ ga < wr.heap.size ∧ wr.cell? ⟨ga, 0, none⟩ = some (.int .i64 rootH)) ∧
      (i = 1 → ∃ gn cn, Blk wr (w.heap.size + 1) 67 [.int .i64 0, .int .i64 0, .slice Ag 64 cg, .slice (some ⟨gn, 0, none⟩) 1 cn, .slice none 0 0, .slice none 0 0, .slice none 0 0, .int .i64 0] ∧ w.heap.size + 2 ≤ gn ∧ gn < wr.heap.size ∧ ∀ (j : Nat) (u : Value), rootState[j]? = some u → wr.cell? ⟨gn, j, none⟩ = some u))
      (fun u _ => 1 - (intOf u).toNat)
  case atStart => exact ⟨0, by omega, rfl, B3.out, by omega, BR3.out, A3.out, fun _ => ⟨BS3.out, hga, a1⟩, fun h => absurd h (by omega)⟩
  case round =>
    clear BR3 BS3 B3 A3 hga a1
    obtain ⟨i, hi, rfl, r1, r2, r3, r4, r5, r6⟩ := hrel
    by_cases e : i = 0
    · subst e
      obtain ⟨r7, r8, r9⟩ := r5 rfl
      have hK3 := HK.out.below r1
      have G := Lib.hid (getRoot hK3)
      have k0 := hK3.kern.at_ (i := 0) rfl
      have R1 := Lib.hid r1
      have R3 := Lib.hid r3
      have R4 := Lib.hid r4
      have R7 := Lib.hid r7
      clear r1 r3 r4 r5 r6 r7 hK3
      go_wp2_with fail
      refine G.out.mono ?_
      rintro e w4 ⟨rfl, n, hw4⟩
      have hb4 : Below wr.heap.size wr w4 := by rw [hw4]; exact below_drewN (Below.refl _ _) n
      have hz4 : w4.heap.size = wr.heap.size := by rw [hw4]; rfl
      have S1 := Lib.hid (R1.out.trans (hb4.mono (by omega)))
      have S3 := Lib.hid (R3.out.below hb4 (by omega))
      have S4 := Lib.hid (R4.out.below hb4)
      have S7 := Lib.hid (R7.out.below hb4 (by omega))
      have r2' : w.heap.size + 2 ≤ w4.heap.size := by omega
      have hK4 := HK.out.below S1.out
      have n0 := hK4.node.at_ (i := 0) rfl
      have n1 := hK4.node.at_ (i := 1) rfl
      have n2 := hK4.node.at_ (i := 2) rfl
      have n3 := hK4.node.at_ (i := 3) rfl
      have n4 := hK4.node.at_ (i := 4) rfl
      have n5 := hK4.node.at_ (i := 5) rfl
      have n6 := hK4.node.at_ (i := 6) rfl
      have n7 := hK4.node.at_ (i := 7) rfl
      have n8 := hK4.node.at_ (i := 8) rfl
      have n9 := hK4.node.at_ (i := 9) rfl
      have n10 := hK4.node.at_ (i := 10) rfl
      have k1 := hK4.kern.at_ (i := 1) rfl
      have k2 := hK4.kern.at_ (i := 2) rfl
      have lk := hK4.kern.lt
      have ln := hK4.node.lt
      clear hw4 hb4 hz4 R1 R3 R4 R7 r8 r9 k0 G r2 hK4
      go_wp2
      refine wp_region_noPanic ?_
      refine wp_region_held_drew (S := fun W => W.cell? ⟨gN, 0, none⟩ = some (.int .i64 0) ∧ W.cell? ⟨gN, 1, none⟩ = some (.int .i64 0) ∧ W.cell? ⟨gN, 2, none⟩ = some (.int .i64 0) ∧ W.cell? ⟨gN, 3, none⟩ = some (.int .i64 0) ∧ W.cell? ⟨gN, 4, none⟩ = some (.int .i64 0) ∧ W.cell? ⟨gN, 5, none⟩ = some (.bool false) ∧ W.cell? ⟨gN, 6, none⟩ = some (.int .i64 0) ∧ W.cell? ⟨gN, 7, none⟩ = some (.int .i64 0) ∧ W.cell? ⟨gN, 8, none⟩ = some (.int .i64 0) ∧ W.cell? ⟨gN, 9, none⟩ = some (.int .i64 0)) (by kernel_rfl) ?_ (fun hHeld => ?_)
      · go_keep
      refine wpAnyH_take (i := 0) (oi := _) (v := ?_) rfl (by kernel_rfl) (by kernel_rfl) (by kernel_rfl) (fun _ _ _ h => h) (Or.inl ⟨by rfl, ?_⟩) (by assumption) ?_
      rotate_left
      · intro w hSw
        try dsimp only at hSw
        go_simp
        try (with_reducible rfl)
      try simp only [Act.put, List.setIfInBounds_toArray, List.set_cons_zero, List.set_cons_succ]
      refine wpAnyH_take (i := 1) (oi := _) (v := ?_) rfl (by kernel_rfl) (by kernel_rfl) (by kernel_rfl) (fun _ _ _ h => h) (Or.inl ⟨by rfl, ?_⟩) (by assumption) ?_
      rotate_left
      · intro w hSw
        try dsimp only at hSw
        go_simp
        try (with_reducible rfl)
      try simp only [Act.put, List.setIfInBounds_toArray, List.set_cons_zero, List.set_cons_succ]
      refine wpAnyH_take (i := 2) (oi := _) (v := ?_) rfl (by kernel_rfl) (by kernel_rfl) (by kernel_rfl) (fun _ _ _ h => h) (Or.inl ⟨by rfl, ?_⟩) (by assumption) ?_
      rotate_left
      · intro w hSw
        try dsimp only at hSw
        go_simp
        try (with_reducible rfl)
      try simp only [Act.put, List.setIfInBounds_toArray, List.set_cons_zero, List.set_cons_succ]
      refine wpAnyH_take (i := 3) (oi := _) (v := ?_) rfl (by kernel_rfl) (by kernel_rfl) (by kernel_rfl) (fun _ _ _ h => h) (Or.inl ⟨by rfl, ?_⟩) (by assumption) ?_
      rotate_left
      · intro w hSw
        try dsimp only at hSw
        go_simp
        try (with_reducible rfl)
      try simp only [Act.put, List.setIfInBounds_toArray, List.set_cons_zero, List.set_cons_succ]
      refine wpAnyH_take (i := 4) (oi := _) (v := ?_) rfl (by kernel_rfl) (by kernel_rfl) (by kernel_rfl) (fun _ _ _ h => h) (Or.inl ⟨by rfl, ?_⟩) (by assumption) ?_
      rotate_left
      · intro w hSw
        try dsimp only at hSw
        go_simp
        try (with_reducible rfl)
      try simp only [Act.put, List.setIfInBounds_toArray, List.set_cons_zero, List.set_cons_succ]
      refine wpAnyH_take (i := 5) (oi := _) (v := ?_) rfl (by kernel_rfl) (by kernel_rfl) (by kernel_rfl) (fun _ _ _ h => h) (Or.inl ⟨by rfl, ?_⟩) (by assumption) ?_
      rotate_left
      · intro w hSw
        try dsimp only at hSw
        go_simp
        try (with_reducible rfl)
      try simp only [Act.put, List.setIfInBounds_toArray, List.set_cons_zero, List.set_cons_succ]
      refine wpAnyH_take (i := 6) (oi := _) (v := ?_) rfl (by kernel_rfl) (by kernel_rfl) (by kernel_rfl) (fun _ _ _ h => h) (Or.inl ⟨by rfl, ?_⟩) (by assumption) ?_
      rotate_left
      · intro w hSw
        try dsimp only at hSw
        go_simp
        try (with_reducible rfl)
      try simp only [Act.put, List.setIfInBounds_toArray, List.set_cons_zero, List.set_cons_succ]
      refine wpAnyH_take (i := 7) (oi := _) (v := ?_) rfl (by kernel_rfl) (by kernel_rfl) (by kernel_rfl) (fun _ _ _ h => h) (Or.inl ⟨by rfl, ?_⟩) (by assumption) ?_
      rotate_left
      · intro w hSw
        try dsimp only at hSw
        go_simp
        try (with_reducible rfl)
      try simp only [Act.put, List.setIfInBounds_toArray, List.set_cons_zero, List.set_cons_succ]
      refine wpAnyH_take (i := 8) (oi := _) (v := ?_) rfl (by kernel_rfl) (by kernel_rfl) (by kernel_rfl) (fun _ _ _ h => h) (Or.inl ⟨by rfl, ?_⟩) (by assumption) ?_
      rotate_left
      · intro w hSw
        try dsimp only at hSw
        go_simp
        try (with_reducible rfl)
      try simp only [Act.put, List.setIfInBounds_toArray, List.set_cons_zero, List.set_cons_succ]
      refine wpAnyH_take (i := 9) (oi := _) (v := ?_) rfl (by kernel_rfl) (by kernel_rfl) (by kernel_rfl) (fun _ _ _ h => h) (Or.inl ⟨by rfl, ?_⟩) (by assumption) ?_
      rotate_left
      · intro w hSw
        try dsimp only at hSw
        go_simp
        try (with_reducible rfl)
      try simp only [Act.put, List.setIfInBounds_toArray, List.set_cons_zero, List.set_cons_succ]
      refine wpAnyH_take (i := 10) (oi := _) (v := ?_) rfl (by kernel_rfl) (by kernel_rfl) (by kernel_rfl) (fun _ _ _ h => h) (Or.inl ⟨by rfl, ?_⟩) (by assumption) ?_
      rotate_left
      · intro w hSw
        try dsimp only at hSw
        go_simp
        try (with_reducible rfl)
      try simp only [Act.put, List.setIfInBounds_toArray, List.set_cons_zero, List.set_cons_succ]
      refine wpAnyH_take (i := 11) (oi := _) (v := ?_) rfl (by kernel_rfl) (by kernel_rfl) (by kernel_rfl) (fun _ _ _ h => h) (Or.inl ⟨by rfl, ?_⟩) (by assumption) ?_
      rotate_left
      · intro w hSw
        try dsimp only at hSw
        go_simp
        try (with_reducible rfl)
      try simp only [Act.put, List.setIfInBounds_toArray, List.set_cons_zero, List.set_cons_succ]
      refine wpAnyH_take (i := 12) (oi := _) (v := ?_) rfl (by kernel_rfl) (by kernel_rfl) (by kernel_rfl) (fun _ _ _ h => h) (Or.inl ⟨by rfl, ?_⟩) (by assumption) ?_
      rotate_left
      · intro w hSw
        try dsimp only at hSw
        go_simp
        try (with_reducible rfl)
      try simp only [Act.put, List.setIfInBounds_toArray, List.set_cons_zero, List.set_cons_succ]
      refine wpAnyH_take (i := 13) (oi := _) (v := ?_) rfl (by kernel_rfl) (by kernel_rfl) (by kernel_rfl) (fun _ _ _ h => h) (Or.inl ⟨by rfl, ?_⟩) (by assumption) ?_
      rotate_left
      · intro w hSw
        try dsimp only at hSw
        go_simp
        try (with_reducible rfl)
      try simp only [Act.put, List.setIfInBounds_toArray, List.set_cons_zero, List.set_cons_succ]
      refine wpAnyH_ready (rs := [14]) (by kernel_rfl) (by simp) ?_
      refine AllReadyH.cons (o := _) rfl (fun K hK => ?_) AllReadyH.nil
      go_simp
      refine hK.out _ _ ?_ (fun hHeld2 => ?_)
      · go_keep
      clear hK K
      try simp only [Act.put, List.setIfInBounds_toArray, List.set_cons_zero, List.set_cons_succ]
      refine wpAnyH_ready (rs := [15]) (by kernel_rfl) (by simp) ?_
      refine AllReadyH.cons (o := _) rfl (fun K hK => ?_) AllReadyH.nil
      rw [if_pos (by rfl)]
      with_reducible refine wp_store_newD 79 (.tmp 8) (.tmp 59) rfl w4.heap.size #[.int .i64 rootH, .int .i64 0, .int .i64 0, .int .i64 0, .int .i64 0, .int .i64 0, .bool false, .int .i64 0, .int .i64 0, .int .i64 0, .int .i64 0, .int .i64 0, .int .i64 0, .int .i64 0, .int .i64 0, .int .i64 0, .int .i64 0, .int .i64 0, .int .i64 0, .int .i64 0, .int .i64 0, .int .i64 0, .int .i64 0, .slice none 0 0, .slice none 0 0, .slice none 0 0] rfl rfl rfl 79 #[.int .i64 0, .int .i64 0, .int .i64 0, .int .i64 0, .int .i64 0, .int .i64 0, .bool false, .int .i64 0, .int .i64 0, .int .i64 0, .int .i64 0, .int .i64 0, .int .i64 0, .int .i64 0, .int .i64 0, .int .i64 0, .int .i64 0, .int .i64 0, .int .i64 0, .int .i64 0, .int .i64 0, .int .i64 0, .int .i64 0, .slice none 0 0, .slice none 0 0, .slice none 0 0] ?_ ?_ ?_ ?_
      · kernel_rfl
      · rfl
      · simp [Value.oneCell']
      refine hK.out _ _ ?_ (fun hHeld3 => ?_)
      · go_keep
      clear hK K
      try simp only [Act.put, List.setIfInBounds_toArray, List.set_cons_zero, List.set_cons_succ]
      refine wpAnyH_done (by kernel_rfl) ?_ _
      refine NoPanic.normal ?_
      clear hHeld hHeld2 hHeld3
      have K5 := HK.out.below (((S1.out).alloc (by omega) (.cells #[.int .i64 rootH, .int .i64 0, .int .i64 0, .int .i64 0, .int .i64 0, .int .i64 0, .bool false, .int .i64 0, .int .i64 0, .int .i64 0, .int .i64 0, .int .i64 0, .int .i64 0, .int .i64 0, .int .i64 0, .int .i64 0, .int .i64 0, .int .i64 0, .int .i64 0, .int .i64 0, .int .i64 0, .int .i64 0, .int .i64 0, .slice none 0 0, .slice none 0 0, .slice none 0 0] 79)).drew)
      go_wp2_with fail
      refine (ledgerOf0 K5).mono ?_
      rintro e w6 ⟨rfl, hb6⟩
      have BN6 : Blk w6 w4.heap.size 79 [.int .i64 rootH, .int .i64 0, .int .i64 0, .int .i64 0, .int .i64 0, .int .i64 0, .bool false, .int .i64 0, .int .i64 0, .int .i64 0, .int .i64 0, .int .i64 0, .int .i64 0, .int .i64 0, .int .i64 0, .int .i64 0, .int .i64 0, .int .i64 0, .int .i64 0, .int .i64 0, .int .i64 0, .int .i64 0, .int .i64 0, .slice none 0 0, .slice none 0 0, .slice none 0 0] := Blk.below ((Blk.newA w4 #[.int .i64 rootH, .int .i64 0, .int .i64 0, .int .i64 0, .int .i64 0, .int .i64 0, .bool false, .int .i64 0, .int .i64 0, .int .i64 0, .int .i64 0, .int .i64 0, .int .i64 0, .int .i64 0, .int .i64 0, .int .i64 0, .int .i64 0, .int .i64 0, .int .i64 0, .int .i64 0, .int .i64 0, .int .i64 0, .int .i64 0, .slice none 0 0, .slice none 0 0, .slice none 0 0] 79).drew) hb6 (by rw [size_drew, size_alloc]; omega)
      have D6 : Below w4.heap.size w4 w6 := (((Below.refl w4.heap.size w4).alloc (Nat.le_refl _) (.cells #[.int .i64 rootH, .int .i64 0, .int .i64 0, .int .i64 0, .int .i64 0, .int .i64 0, .bool false, .int .i64 0, .int .i64 0, .int .i64 0, .int .i64 0, .int .i64 0, .int .i64 0, .int .i64 0, .int .i64 0, .int .i64 0, .int .i64 0, .int .i64 0, .int .i64 0, .int .i64 0, .int .i64 0, .int .i64 0, .int .i64 0, .slice none 0 0, .slice none 0 0, .slice none 0 0] 79)).drew).trans (hb6.mono (by rw [size_drew, size_alloc]; omega))
      have u2 : w4.heap.size + 1 ≤ w6.heap.size := by have := hb6.size; rw [size_drew, size_alloc] at this; omega
      clear hb6 K5 k1 k2 n0 n1 n2 n3 n4 n5 n6 n7 n8 n9 n10
      go_wp2_with (first
        | (refine wpList_store_part rfl 77 (.tmp 70) (.tmp 67) rfl w4.heap.size 11 [.int .i64 0, .int .i64 0, .int .i64 0, .int .i64 0, .int .i64 0, .int .i64 0] rfl rfl (by kernel_rfl) (by simp [Value.oneCell']) 79 [.int .i64 rootH, .int .i64 0, .int .i64 0, .int .i64 0, .int .i64 0, .int .i64 0, .bool false, .int .i64 0, .int .i64 0, .int .i64 0, .int .i64 0, .int .i64 0, .int .i64 0, .int .i64 0, .int .i64 0, .int .i64 0, .int .i64 0, .int .i64 0, .int .i64 0, .int .i64 0, .int .i64 0, .int .i64 0, .int .i64 0, .slice none 0 0, .slice none 0 0, .slice none 0 0] BN6 (by simp) ?_
           intro w7 BN7 hg7
           have BN7' : Blk w7 w4.heap.size 79 [.int .i64 rootH, .int .i64 0, .int .i64 0, .int .i64 0, .int .i64 0, .int .i64 0, .bool false, .int .i64 0, .int .i64 0, .int .i64 0, .int .i64 0, .int .i64 0, .int .i64 0, .int .i64 0, .int .i64 0, .int .i64 0, .int .i64 0, .int .i64 0, .int .i64 0, .int .i64 0, .int .i64 0, .int .i64 0, .int .i64 0, .slice none 0 0, .slice none 0 0, .slice none 0 0] := BN7)
        | (refine wpList_store_part rfl 77 (.tmp 71) (.tmp 68) rfl w4.heap.size 17 [.int .i64 0, .int .i64 0, .int .i64 0, .int .i64 0, .int .i64 0, .int .i64 0] rfl rfl (by kernel_rfl) (by simp [Value.oneCell']) 79 [.int .i64 rootH, .int .i64 0, .int .i64 0, .int .i64 0, .int .i64 0, .int .i64 0, .bool false, .int .i64 0, .int .i64 0, .int .i64 0, .int .i64 0, .int .i64 0, .int .i64 0, .int .i64 0, .int .i64 0, .int .i64 0, .int .i64 0, .int .i64 0, .int .i64 0, .int .i64 0, .int .i64 0, .int .i64 0, .int .i64 0, .slice none 0 0, .slice none 0 0, .slice none 0 0] BN7' (by simp) ?_
           intro w8 BN8 hg8
           have BN9 : Blk w8 w4.heap.size 79 [.int .i64 rootH, .int .i64 0, .int .i64 0, .int .i64 0, .int .i64 0, .int .i64 0, .bool false, .int .i64 0, .int .i64 0, .int .i64 0, .int .i64 0, .int .i64 0, .int .i64 0, .int .i64 0, .int .i64 0, .int .i64 0, .int .i64 0, .int .i64 0, .int .i64 0, .int .i64 0, .int .i64 0, .int .i64 0, .int .i64 0, .slice none 0 0, .slice none 0 0, .slice none 0 0] := BN8
           have D8 := D6.grown (grown_trans hg7 hg8) (by omega) (by intro k hk; simp at hk; omega)
           have X1 := Lib.hid (S1.out.trans (D8.mono (by omega)))
           have X3 := Lib.hid (S3.out.below D8 (by omega))
           have X4 := Lib.hid (S4.out.below D8)
           have X7 := Lib.hid (S7.out.below D8 (by omega))
           have u8 : w4.heap.size < w8.heap.size := BN9.lt
           have k1 := (HK.out.below X1.out).kern.at_ (i := 1) rfl
           have s3 := X7.out.at_ (i := 3) rfl
           have fs3 := X7.out.frozen 3
           clear BN6 BN7 BN7' BN8 hg7 hg8 D6 D8 S1 S3 S4 S7)
        | (refine wpList_load_blk rfl 79 (.tmp 8) rfl w4.heap.size rfl 79 [.int .i64 rootH, .int .i64 0, .int .i64 0, .int .i64 0, .int .i64 0, .int .i64 0, .bool false, .int .i64 0, .int .i64 0, .int .i64 0, .int .i64 0, .int .i64 0, .int .i64 0, .int .i64 0, .int .i64 0, .int .i64 0, .int .i64 0, .int .i64 0, .int .i64 0, .int .i64 0, .int .i64 0, .int .i64 0, .int .i64 0, .slice none 0 0, .slice none 0 0, .slice none 0 0] BN9 _ Tryd.underlying79 rfl (by kernel_rfl) ?_)
        | (at_builtin; refine appN _ rfl (.tmp 94) (.tmp 96) 61 rfl (w.heap.size + 2) 79 _ 26 256 Tryd.underlying61 infoS rfl (by omega) (.slice none 0 0) 0 [] rfl (own_nil _ _ _ _) w8.heap.size 1 [.int .i64 rootH, .int .i64 0, .int .i64 0, .int .i64 0, .int .i64 0, .int .i64 0, .bool false, .int .i64 0, .int .i64 0, .int .i64 0, .int .i64 0, .int .i64 0, .int .i64 0, .int .i64 0, .int .i64 0, .int .i64 0, .int .i64 0, .int .i64 0, .int .i64 0, .int .i64 0, .int .i64 0, .int .i64 0, .int .i64 0, .slice none 0 0, .slice none 0 0, .slice none 0 0] rfl
             (Blk.newA' _ _ _ rfl) rfl (by simp [Value.oneCell']) (by omega) (by omega) (by rw [size_alloc]; omega) ?_
           intro v9 w9 hown9 hg9
           obtain ⟨gn, cn, rfl, y1, y2, y3⟩ := own_oneN hown9
           have D9 := ((Below.refl w8.heap.size w8).alloc (Nat.le_refl _) (.cells #[.int .i64 rootH, .int .i64 0, .int .i64 0, .int .i64 0, .int .i64 0, .int .i64 0, .bool false, .int .i64 0, .int .i64 0, .int .i64 0, .int .i64 0, .int .i64 0, .int .i64 0, .int .i64 0, .int .i64 0, .int .i64 0, .int .i64 0, .int .i64 0, .int .i64 0, .int .i64 0, .int .i64 0, .int .i64 0, .int .i64 0, .slice none 0 0, .slice none 0 0, .slice none 0 0] 79)).grown hg9 (by rw [size_alloc]; omega) (by intro k hk; cases hk)
           have Y1 := Lib.hid (X1.out.trans (D9.mono (by omega)))
           have Y3 := Lib.hid (X3.out.below D9 (by omega))
           have Y4 := Lib.hid (X4.out.below D9)
           have Y7 := Lib.hid (X7.out.below D9 (by omega))
           have YY := Lib.hid y3
           have y8 := D9.size
           have s3' := Y7.out.at_ (i := 3) rfl
           have fs3' := Y7.out.frozen 3
           clear X1 X3 X4 X7 D9 hg9 hown9 k1 s3 fs3 y3))
      go_roundw
      case rel =>
        refine ⟨1, by omega, rfl, Y1.out.setCell (by simp) _, by rw [size_set]; omega, Y3.out.far (by simp) _, Y4.out.set (by simp) _, fun h => absurd h (by omega), fun _ => ⟨gn, cn, Y7.out.set_ 3 _, y1, by rw [size_set]; exact y2, fun j u hj => ?_⟩⟩
        rw [World.cell?_setCell_other w9 _ _ _ (fun e => by simp only [Addr.mk.injEq] at e; omega)]
        exact YY.out j u hj
      case measure => simp [intOf]
    · obtain rfl : i = 1 := by omega
      obtain ⟨gn, cn, r7, r8, r9, r10⟩ := r6 rfl
      have hK3 := HK.out.below r1
      have k3 := hK3.kern.at_ (i := 3) rfl
      have P := Lib.hid (poolSave0 hK3)
      have R1 := Lib.hid r1
      have R3 := Lib.hid r3
      have R4 := Lib.hid r4
      have R7 := Lib.hid r7
      have R10 := Lib.hid r10
      clear r1 r3 r4 r5 r6 r7 r10 hK3 hi
      go_wp2_with fail
      refine P.out.mono ?_
      rintro e w10 ⟨v, u, rfl, p1, p2, p3⟩
      have Q1 := Lib.hid (R1.out.trans (p3.mono (by omega)))
      have Q3 := Lib.hid (R3.out.below p3 (by omega))
      have Q4 := Lib.hid (R4.out.below p3)
      have Q7 := Lib.hid (R7.out.below p3 (by omega))
      have Q10 : Hid (∀ (j : Nat) (u : Value), rootState[j]? = some u → w10.cell? ⟨gn, j, none⟩ = some u) := fun j u hj => (p3.cell (p := ⟨gn, j, none⟩) r9).trans (R10.out j u hj)
      have QA := Lib.hid ((IntsAt.of_own (by rw [gensTo_ints] at p1; exact p1)).lower (lo' := w.heap.size + 2) (by omega))
      have QB := Lib.hid ((BoolsAt.of_own (by omega) p2).lower (lo' := w.heap.size + 2) (by omega))
      have q9 : gn < w10.heap.size := by have := p3.size; omega
      obtain ⟨Av, cv, rfl⟩ := own_form p1
      obtain ⟨Au, cu, rfl⟩ := own_form p2
      have s4 := Q7.out.at_ (i := 4) rfl
      have s5 := Q7.out.at_ (i := 5) rfl
      have s6 := Q7.out.at_ (i := 6) rfl
      have s7 := Q7.out.at_ (i := 7) rfl
      have f4 := Q7.out.frozen 4
      have f5 := Q7.out.frozen 5
      have f6 := Q7.out.frozen 6
      have f7 := Q7.out.frozen 7
      clear p1 p2 p3 k3 R1 R3 R4 R7 R10
      have BS : Blk ((((w10.setCell ⟨w.heap.size + 1, 4, none⟩ (.slice Av 16 cv)).setCell ⟨w.heap.size + 1, 5, none⟩ (.slice Au 16 cu)).setCell ⟨w.heap.size + 1, 6, none⟩ (.slice none 0 0)).setCell ⟨w.heap.size + 1, 7, none⟩ (.int .i64 (-1))) (w.heap.size + 1) 67 [.int .i64 0, .int .i64 0, .slice Ag 64 cg, .slice (some ⟨gn, 0, none⟩) 1 cn, .slice Av 16 cv, .slice Au 16 cu, .slice none 0 0, .int .i64 (-1)] := (((Q7.out.set_ 4 (.slice Av 16 cv)).set_ 5 (.slice Au 16 cu)).set_ 6 (.slice none 0 0)).set_ 7 (.int .i64 (-1))
      have BR := ((((Q3.out.far (p := ⟨w.heap.size + 1, 4, none⟩) (by simp) (.slice Av 16 cv)).far (p := ⟨w.heap.size + 1, 5, none⟩) (by simp) (.slice Au 16 cu)).far (p := ⟨w.heap.size + 1, 6, none⟩) (by simp) (.slice none 0 0)).far (p := ⟨w.heap.size + 1, 7, none⟩) (by simp) (.int .i64 (-1)))
      have C4 := Lib.hid ((((Q4.out.set (p := ⟨w.heap.size + 1, 4, none⟩) (by simp) (.slice Av 16 cv)).set (p := ⟨w.heap.size + 1, 5, none⟩) (by simp) (.slice Au 16 cu)).set (p := ⟨w.heap.size + 1, 6, none⟩) (by simp) (.slice none 0 0)).set (p := ⟨w.heap.size + 1, 7, none⟩) (by simp) (.int .i64 (-1)))
      have CA := Lib.hid ((((QA.out.set (p := ⟨w.heap.size + 1, 4, none⟩) (by simp) (.slice Av 16 cv)).set (p := ⟨w.heap.size + 1, 5, none⟩) (by simp) (.slice Au 16 cu)).set (p := ⟨w.heap.size + 1, 6, none⟩) (by simp) (.slice none 0 0)).set (p := ⟨w.heap.size + 1, 7, none⟩) (by simp) (.int .i64 (-1)))
      have CB := Lib.hid ((((QB.out.set (p := ⟨w.heap.size + 1, 4, none⟩) (by simp) (.slice Av 16 cv)).set (p := ⟨w.heap.size + 1, 5, none⟩) (by simp) (.slice Au 16 cu)).set (p := ⟨w.heap.size + 1, 6, none⟩) (by simp) (.slice none 0 0)).set (p := ⟨w.heap.size + 1, 7, none⟩) (by simp) (.int .i64 (-1)))
      have C1 := Lib.hid ((((Q1.out.setCell (p := ⟨w.heap.size + 1, 4, none⟩) (by simp) (.slice Av 16 cv)).setCell (p := ⟨w.heap.size + 1, 5, none⟩) (by simp) (.slice Au 16 cu)).setCell (p := ⟨w.heap.size + 1, 6, none⟩) (by simp) (.slice none 0 0)).setCell (p := ⟨w.heap.size + 1, 7, none⟩) (by simp) (.int .i64 (-1)))
      have C10 : Hid (∀ (j : Nat) (u : Value), rootState[j]? = some u → ((((w10.setCell ⟨w.heap.size + 1, 4, none⟩ (.slice Av 16 cv)).setCell ⟨w.heap.size + 1, 5, none⟩ (.slice Au 16 cu)).setCell ⟨w.heap.size + 1, 6, none⟩ (.slice none 0 0)).setCell ⟨w.heap.size + 1, 7, none⟩ (.int .i64 (-1))).cell? ⟨gn, j, none⟩ = some u) := fun j u hj => by
        rw [World.cell?_setCell_other _ _ _ _ (fun e => by simp only [Addr.mk.injEq] at e; omega), World.cell?_setCell_other _ _ _ _ (fun e => by simp only [Addr.mk.injEq] at e; omega),
          World.cell?_setCell_other _ _ _ _ (fun e => by simp only [Addr.mk.injEq] at e; omega), World.cell?_setCell_other _ _ _ _ (fun e => by simp only [Addr.mk.injEq] at e; omega)]
        exact Q10.out j u hj
      have z11 : ((((w10.setCell ⟨w.heap.size + 1, 4, none⟩ (.slice Av 16 cv)).setCell ⟨w.heap.size + 1, 5, none⟩ (.slice Au 16 cu)).setCell ⟨w.heap.size + 1, 6, none⟩ (.slice none 0 0)).setCell ⟨w.heap.size + 1, 7, none⟩ (.int .i64 (-1))).heap.size = w10.heap.size := by simp only [size_set]
      have HBS := Lib.hid BS
      have HBR := Lib.hid BR
      have HZ := Lib.hid z11
      clear Q1 Q3 Q4 Q7 Q10 QA QB BS BR z11
      go_wp2_with (first
        | ((with_reducible refine wpList_load_blk rfl 67 (.tmp 3) rfl (w.heap.size + 1) rfl 67 [.int .i64 0, .int .i64 0, .slice Ag 64 cg, .slice (some ⟨gn, 0, none⟩) 1 cn, .slice Av 16 cv, .slice Au 16 cu, .slice none 0 0, .int .i64 (-1)] HBS.out _ Tryd.underlying67 ?_ ?_ ?_)
           · rfl
           · kernel_rfl)
        | ((with_reducible refine wpList_store_part rfl 67 (.tmp 2) (.tmp 117) rfl w.heap.size 0 [.int .i64 0, .int .i64 0, .slice Ag 64 cg, .slice (some ⟨gn, 0, none⟩) 1 cn, .slice Av 16 cv, .slice Au 16 cu, .slice none 0 0, .int .i64 (-1)] rfl rfl ?_ ?_ 67 [.int .i64 0, .int .i64 0, .slice none 0 0, .slice none 0 0, .slice none 0 0, .slice none 0 0, .slice none 0 0, .int .i64 0] HBR.out ?_ ?_)
           · kernel_rfl
           · simp [Value.oneCell']
           · simp
           intro w11 E1 E2))
      have E3 : Blk w11 w.heap.size 67 [.int .i64 0, .int .i64 0, .slice Ag 64 cg, .slice (some ⟨gn, 0, none⟩) 1 cn, .slice Av 16 cv, .slice Au 16 cu, .slice none 0 0, .int .i64 (-1)] := E1
      have hz := HZ.out
      have e2s := E2.size
      refine bodyPost_ret (v := .agg #[.int .i64 0, .int .i64 0, .slice Ag 64 cg, .slice (some ⟨gn, 0, none⟩) 1 cn, .slice Av 16 cv, .slice Au 16 cu, .slice none 0 0, .int .i64 (-1)]) (results_cell_row rfl _ _ w.heap.size 67 #[.int .i64 0, .int .i64 0, .slice Ag 64 cg, .slice (some ⟨gn, 0, none⟩) 1 cn, .slice Av 16 cv, .slice Au 16 cu, .slice none 0 0, .int .i64 (-1)] (0, 0) _ rfl E3 Tryd.underlying67 rfl (by kernel_rfl)) rfl ?_
      refine ⟨.slice Ag 64 cg, gn, cn, .slice Av 16 cv, .slice Au 16 cu, rfl, (C4.out.grown E2 (by omega)).lower (by omega), by omega, fun j u hj => E2.cell (a := ⟨gn, j, none⟩) (C10.out j u hj) (by simp; omega), (CA.out.grown E2 (by omega)).lower (by omega), (CB.out.grown E2 (by omega)).lower (by omega), ?_⟩
      exact C1.out.grown E2 (by omega) (by intro k hk; simp at hk; omega)
end Go.Proofs.YthoaadfkainpkaaDoor
