/- WORDS: a block known whole ('Blk'), how it stays as the world goes on; small facts. No program in it. -/
import Derived.Below
import Derived.Deep.OwnRows
import Derived.Deep.Draws
import Derived.OwnWalk
import Derived.WalkKit
import Derived.Lib.Hide
import Derived.Maps.AppendAt
import Derived.Deep.QuietTactic
import Derived.BigQuiet
namespace Go.Proofs.YthoaadfkainpkaaDoor
open Go.RowKit

/-- Block g holds just the cells l, of type t, none of them frozen. -/
def Blk (w : World) (g : Nat) (t : TypeId) (l : List Value) : Prop := w.heap[g]? = some (.cells l.toArray t (0, 0))

namespace Blk
variable {w w' : World} {g : Nat} {t : TypeId} {l : List Value}
theorem lt (h : Blk w g t l) : g < w.heap.size := by
  rcases Nat.lt_or_ge g w.heap.size with a | a
  · exact a
  · unfold Blk at h
    rw [Array.getElem?_eq_none a] at h
    cases h
theorem cell (h : Blk w g t l) (i : Nat) : w.cell? ⟨g, i, none⟩ = l[i]? := by
  unfold Blk at h
  simp [World.cell?, h]
theorem at_ (h : Blk w g t l) {i : Nat} {v : Value} (hi : l[i]? = some v) : w.cell? ⟨g, i, none⟩ = some v := (h.cell i).trans hi
theorem frozen (h : Blk w g t l) (i : Nat) : w.frozen? ⟨g, i, none⟩ = false := by
  unfold Blk at h
  simp [World.frozen?, h]
theorem same (h : Blk w g t l) (e : w'.heap[g]? = w.heap[g]?) : Blk w' g t l := e.trans h
theorem new (w : World) (l : List Value) (t : TypeId) : Blk (w.alloc (.cells l.toArray t)) w.heap.size t l := heap_alloc_new w _
theorem newA (w : World) (a : Array Value) (t : TypeId) : Blk (w.alloc (.cells a t)) w.heap.size t a.toList := heap_alloc_new w _
theorem drew (h : Blk w g t l) : Blk w.drew g t l := h
theorem drewN (h : Blk w g t l) (n : Nat) : Blk (w.drewN n) g t l := h
theorem alloc (h : Blk w g t l) (o : Obj) : Blk (w.alloc o) g t l := h.same (Below.heap_alloc w o g h.lt)
theorem set_ (h : Blk w g t l) (i : Nat) (u : Value) : Blk (w.setCell ⟨g, i, none⟩ u) g t (l.set i u) := by
  unfold Blk at h ⊢
  simp [World.setCell, Array.getElem?_modify, h]
theorem far (h : Blk w g t l) {p : Addr} (hp : g ≠ p.block) (u : Value) : Blk (w.setCell p u) g t l := h.same (Below.heap_setCell w p u g hp)
theorem below {B : Nat} (h : Blk w g t l) (hb : Below B w w') (hg : g < B) : Blk w' g t l := h.same (hb.block g hg)
theorem grown {row : Option Nat} (h : Blk w g t l) (hb : w.grownBy w' row) (hg : some g ≠ row) : Blk w' g t l := h.same (hb.block g h.lt hg)
theorem uniq {t' : TypeId} {l' : List Value} (h : Blk w g t l) (h' : Blk w g t' l') : t = t' ∧ l = l' := by
  unfold Blk at h h'
  rw [h] at h'
  simp only [Option.some.injEq, Obj.cells.injEq] at h'
  exact ⟨h'.2.1, by simpa using h'.1⟩
theorem ne_ {g' : Nat} {t' : TypeId} {l' : List Value} (h : Blk w g t l) (h' : Blk w g' t' l') (hne : t ≠ t') : g ≠ g' := by
  rintro rfl
  exact hne (h.uniq h').1
end Blk

theorem below_drewN {B : Nat} {a w : World} (h : Below B a w) (n : Nat) : Below B a (w.drewN n) := ⟨h.os, h.tape, h.output, h.size, h.block⟩
theorem list_set_eq {l l' : List Value} {i : Nat} {v : Value} (h : ∀ j : Nat, (l.set i v)[j]? = l'[j]?) : l.set i v = l' := List.ext_getElem? h

/-- n pieces of s cells each, one behind the other. -/
def pieces (f : Nat → List Value) (n : Nat) : List Value := (List.range n).flatMap f
theorem pieces_succ (f : Nat → List Value) (n : Nat) : pieces f (n + 1) = pieces f n ++ f n := by simp [pieces, List.range_succ]
theorem pieces_length {f : Nat → List Value} {s : Nat} (hf : ∀ i, (f i).length = s) : ∀ n, (pieces f n).length = n * s
  | 0 => by simp [pieces]
  | n + 1 => by rw [pieces_succ, List.length_append, pieces_length hf n, hf, Nat.add_mul, Nat.one_mul]
theorem pieces_at {f : Nat → List Value} {s : Nat} (hf : ∀ i, (f i).length = s) {i j : Nat} (hj : j < s) : ∀ {n : Nat}, i < n → (pieces f n)[i * s + j]? = (f i)[j]?
  | 0, h => absurd h (by omega)
  | n + 1, h => by
    rw [pieces_succ]
    have hl := pieces_length hf n
    by_cases e : i = n
    · subst e
      rw [List.getElem?_append_right (by omega)]
      congr 1
      omega
    · have hin : i < n := by omega
      have hlt : i * s + j < n * s := by
        have : (i + 1) * s ≤ n * s := Nat.mul_le_mul_right s hin
        rw [Nat.add_mul] at this
        omega
      rw [List.getElem?_append_left (by omega)]
      exact pieces_at hf hj hin
theorem pieces_congr {f g : Nat → List Value} : ∀ {n : Nat}, (∀ i, i < n → f i = g i) → pieces f n = pieces g n
  | 0, _ => rfl
  | n + 1, h => by rw [pieces_succ, pieces_succ, pieces_congr fun i hi => h i (by omega), h n (by omega)]
theorem pieces_set {f : Nat → List Value} {s : Nat} (hf : ∀ i, (f i).length = s) {i j : Nat} (hj : j < s) (v : Value) : ∀ {n : Nat}, i < n →
    (pieces f n).set (i * s + j) v = pieces (fun k => if k = i then (f k).set j v else f k) n
  | 0, h => absurd h (by omega)
  | n + 1, h => by
    rw [pieces_succ, pieces_succ]
    have hl := pieces_length hf n
    by_cases e : i = n
    · subst e
      rw [List.set_append_right _ _ (by omega), if_pos rfl]
      congr 1
      · exact pieces_congr fun k hk => (if_neg (by omega)).symm
      · congr 1
        omega
    · have hin : i < n := by omega
      have hlt : i * s + j < n * s := by
        have : (i + 1) * s ≤ n * s := Nat.mul_le_mul_right s hin
        rw [Nat.add_mul] at this
        omega
      rw [List.set_append_left _ _ (by omega), pieces_set hf hj v hin, if_neg (by omega)]
/-- What 'make' lays: n times the zero value's cells. -/
theorem made_pieces (z : List Value) (n : Nat) (hz : 0 < z.length) : (madeCells z.toArray (n * z.length)).toList = pieces (fun _ => z) n := by
  apply List.ext_getElem?
  intro k
  have hl := pieces_length (f := fun _ => z) (s := z.length) (fun _ => rfl) n
  rcases Nat.lt_or_ge k (n * z.length) with h | h
  · have hd : k / z.length < n := (Nat.div_lt_iff_lt_mul hz).2 h
    have hm : k % z.length < z.length := Nat.mod_lt _ hz
    have hk : k = k / z.length * z.length + k % z.length := by rw [Nat.mul_comm]; exact (Nat.div_add_mod k z.length).symm
    have hp := pieces_at (f := fun _ => z) (s := z.length) (fun _ => rfl) hm hd
    rw [← hk] at hp
    rw [hp]
    simp [madeCells, h, hm]
  · rw [List.getElem?_eq_none (by simpa [size_madeCells] using h), List.getElem?_eq_none (by omega)]

theorem grown_set {a w : World} {g : Nat} (h : a.grownBy w (some g)) {p : Addr} (hp : p.block = g) (u : Value) : a.grownBy (w.setCell p u) (some g) :=
  ⟨h.os, h.tape, h.output, by simpa [World.setCell] using h.size, fun i hi hne => (Below.heap_setCell w p u i (fun e => hne (by rw [e, hp]))).trans (h.block i hi hne)⟩
theorem grown_drewN {a w : World} {row : Option Nat} (h : a.grownBy w row) (n : Nat) : a.grownBy (w.drewN n) row := ⟨h.os, h.tape, h.output, h.size, h.block⟩
theorem grown_trans {a b c : World} {row : Option Nat} (h : a.grownBy b row) (k : b.grownBy c row) : a.grownBy c row :=
  ⟨k.os.trans h.os, k.tape.trans h.tape, k.output.trans h.output, Nat.le_trans h.size k.size, fun i hi hne => (k.block i (Nat.lt_of_lt_of_le hi h.size) hne).trans (h.block i hi hne)⟩

theorem own_drewN {w : World} {base : Nat} {e : TypeId} {size : Nat} {v : Value} {n : Nat} {xs : List Value} (h : w.ownsRow base e size v n xs) (k : Nat) : (w.drewN k).ownsRow base e size v n xs := h
theorem own_nil (w : World) (base : Nat) (e : TypeId) (size : Nat) : w.ownsRow base e size (.slice none 0 0) 0 [] := ⟨by simp, .inl ⟨rfl, rfl⟩⟩
theorem own_len {w : World} {base : Nat} {e : TypeId} {size : Nat} {v : Value} {n m : Nat} {xs ys : List Value} (h : w.ownsRow base e size v n xs) (hn : n = m) (hx : xs = ys) : w.ownsRow base e size v m ys := by rw [← hn, ← hx]; exact h
/-- An owned row's slice: its form, and that its block is one of the call's own. -/
theorem own_form {w : World} {base : Nat} {e : TypeId} {size : Nat} {v : Value} {n : Nat} {xs : List Value} (h : w.ownsRow base e size v n xs) : ∃ A c, v = .slice A n c := by
  rcases h.2 with ⟨hv, h0⟩ | ⟨g, cap, cur, hv, _⟩
  · exact ⟨none, 0, by rw [hv, h0]⟩
  · exact ⟨_, _, hv⟩
theorem own_from {w : World} {base : Nat} {e : TypeId} {size : Nat} {v : Value} {n : Nat} {xs : List Value} (h : w.ownsRow base e size v n xs) : ∀ k, v.ownBlock = some k → base ≤ k := by
  intro k hk
  rcases h.2 with ⟨hv, h0⟩ | ⟨g, cap, cur, hv, hg, _⟩
  · rw [hv] at hk; cases hk
  · rw [hv] at hk
    simp only [Value.ownBlock, Option.some.injEq] at hk
    omega
/-- 'append(out, x)', one element of one cell, out a row of the call's own. -/
theorem app1 {P : Program} (w : World) {ops : Array Oper} {rest : List Oper} {o : Oper} {a : Act} {Q : Exit → Act → World → Prop} (hgd : o.guard = none) (s x : Operand) (t : TypeId)
    (ho : o.op = .call { callee := .builtin .append, args := #[s, x], argTypes := #[t, t] })
    (base : Nat) (e : TypeId) (z : Value) (bytes : Nat) (ht : P.underlying t = some (.slice e)) (hinfo : (P.info? e).map (fun i => (i.zero, i.size, i.bytes)) = some (some z, 1, bytes)) (hzs : z.cells.size = 1)
    (v : Value) (n : Nat) (xs : List Value) (hs : a.eval s = v) (hown : w.ownsRow base e 1 v n xs)
    (g c : Nat) (u : Value) (hx : a.eval x = .slice (some ⟨g, 0, none⟩) 1 c) (hc : w.cell? ⟨g, 0, none⟩ = some u) (h1 : u.oneCell' = true)
    (hb : bytes ≤ 1024) (hn : n ≤ 1000000000) (hbase : base ≤ w.heap.size)
    (h : ∀ v' w', w'.ownsRow base e 1 v' (n + 1) (xs ++ [u]) → w.grownBy w' v.ownBlock → wpList P ops Q rest (a.put o.dst v') w') : wpList P ops Q (o :: rest) a w := by
  obtain ⟨i, hi, hz, hsz, hby⟩ := info_parts hinfo
  refine wpList_append_own w hgd s x t ho base e i z 1 bytes ht hi hz hsz hby hzs (by omega) v n xs hs hown ⟨g, 0, none⟩ 1 c [u] hx rfl ?_ ?_ ?_ ?_ hbase fun v' w' h2 h3 _ => h v' w' h2 h3
  · intro j y hj
    match j with
    | 0 => simp at hj; subst hj; exact hc
    | j + 1 => simp at hj
  · intro y hy; simp at hy; subst hy; exact h1
  · simp only [maxLen]; omega
  · have : (n + 1) * bytes ≤ (n + 1) * 1024 := Nat.mul_le_mul_left _ hb
    omega

theorem size_alloc (w : World) (o : Obj) : (w.alloc o).heap.size = w.heap.size + 1 := by simp
theorem size_drewN (w : World) (n : Nat) : (w.drewN n).heap.size = w.heap.size := rfl
theorem size_drew (w : World) : w.drew.heap.size = w.heap.size := rfl
theorem size_set (w : World) (p : Addr) (u : Value) : (w.setCell p u).heap.size = w.heap.size := by simp [World.setCell]
theorem cell_new (w : World) (u : Value) (t : TypeId) {g : Nat} (h : g = w.heap.size) : (w.alloc (.cells #[u] t)).cell? ⟨g, 0, none⟩ = some u := by
  subst h
  exact (Blk.newA w #[u] t).at_ rfl

/-- Quiet contracts, offered inside 'go_quiet': the world may have draws already. -/
theorem quiet_left {P : Program} {f : FuncId} {args : Array Value} {w : World} {n : Nat} {v : Value}
    (h : ∀ W : World, Calls P f args W fun e w' => e = .returned v ∧ W = w') : Calls P f args (w.drewN n) fun e w' => e = .returned v ∧ ∃ m, w' = w.drewN m :=
  (h _).mono fun _ _ ⟨he, hm⟩ => ⟨he, n, hm.symm⟩
theorem quiet_more {P : Program} {f : FuncId} {args : Array Value} {w : World} {n : Nat} {v : Value}
    (h : Calls P f args (w.drewN n) fun e w' => e = .returned v ∧ ∃ m, w' = (w.drewN n).drewN m) : Calls P f args (w.drewN n) fun e w' => e = .returned v ∧ ∃ m, w' = w.drewN m :=
  h.mono fun _ _ ⟨he, m, hm⟩ => ⟨he, n + m, by rw [hm, World.drewN_drewN]⟩
theorem quiet_left_add {P : Program} {f : FuncId} {args : Array Value} {w : World} {a n : Nat} {v : Value}
    (h : ∀ W : World, Calls P f args W fun e w' => e = .returned v ∧ W = w') : Calls P f args (w.drewN (a + n)) fun e w' => e = .returned v ∧ ∃ m, w' = w.drewN (a + m) :=
  (h _).mono fun _ _ ⟨he, hm⟩ => ⟨he, n, hm.symm⟩
theorem quiet_more_add {P : Program} {f : FuncId} {args : Array Value} {w : World} {a n : Nat} {v : Value}
    (h : Calls P f args (w.drewN (a + n)) fun e w' => e = .returned v ∧ ∃ m, w' = (w.drewN (a + n)).drewN m) : Calls P f args (w.drewN (a + n)) fun e w' => e = .returned v ∧ ∃ m, w' = w.drewN (a + m) :=
  h.mono fun _ _ ⟨he, m, hm⟩ => ⟨he, n + m, by rw [hm, World.drewN_drewN, Nat.add_assoc]⟩
end Go.Proofs.YthoaadfkainpkaaDoor
