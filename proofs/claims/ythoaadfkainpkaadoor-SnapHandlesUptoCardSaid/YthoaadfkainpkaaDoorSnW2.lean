/- WORDS, MORE: two rows of the call's own, one of them grown by append, in a region that draws its order. -/
import Derived.Test.YthoaadfkainpkaaDoorSnW
import Derived.Deep.RegionLaw
namespace Go.Proofs.YthoaadfkainpkaaDoor
open Go.RowKit

theorem own_other {w w1 : World} {B B' : Nat} {e e' : TypeId} {s s' : Nat} {v v' : Value} {n n' : Nat} {xs xs' : List Value} (h : w.ownsRow B e s v n xs) (h' : w.ownsRow B' e' s' v' n' xs') (hne : e ≠ e')
    (hg : w.grownBy w1 v'.ownBlock) : w1.ownsRow B e s v n xs := by
  refine h.kept hg ?_
  rcases h.2 with ⟨rfl, _⟩ | ⟨g, cap, cur, rfl, _, hh, _⟩
  · exact .inl rfl
  · refine .inr ?_
    rcases h'.2 with ⟨rfl, _⟩ | ⟨g', cap', cur', rfl, _, hh', _⟩
    · simp [Value.ownBlock]
    · simp only [Value.ownBlock, ne_eq, Option.some.injEq]
      rintro rfl
      rw [hh] at hh'
      simp only [Option.some.injEq, Obj.cells.injEq] at hh'
      exact hne hh'.2.1
theorem own_blk {w w1 : World} {B : Nat} {e t : TypeId} {s g : Nat} {v : Value} {n : Nat} {xs l : List Value} (h : Blk w g t l) (h' : w.ownsRow B e s v n xs) (hne : t ≠ e) (hg : w.grownBy w1 v.ownBlock) : Blk w1 g t l := by
  refine h.grown hg ?_
  rcases h'.2 with ⟨rfl, _⟩ | ⟨g', cap', cur', rfl, _, hh', _⟩
  · simp [Value.ownBlock]
  · simp only [Value.ownBlock, ne_eq, Option.some.injEq]
    rintro rfl
    unfold Blk at h
    rw [h] at hh'
    simp only [Option.some.injEq, Obj.cells.injEq] at hh'
    exact hne hh'.2.1

theorem Blk.newA' (w : World) (a : Array Value) (t : TypeId) {g : Nat} (h : g = w.heap.size) : Blk (w.alloc (.cells a t)) g t a.toList := by
  subst h
  exact Blk.newA w a t

theorem step_app1 {P : Program} {ops : Array Oper} {o : Oper} {a : Act} {w : World} {K : Act → World → Prop} {Q : Exit → Act → World → Prop} {E : Prop} (hgd : o.guard = none) (s x : Operand) (t : TypeId)
    (ho : o.op = .call { callee := .builtin .append, args := #[s, x], argTypes := #[t, t] })
    (base : Nat) (e : TypeId) (z : Value) (bytes : Nat) (ht : P.underlying t = some (.slice e)) (hinfo : (P.info? e).map (fun i => (i.zero, i.size, i.bytes)) = some (some z, 1, bytes)) (hzs : z.cells.size = 1)
    (v : Value) (n : Nat) (xs : List Value) (hs : a.eval s = v) (hown : w.ownsRow base e 1 v n xs)
    (g c : Nat) (u : Value) (hx : a.eval x = .slice (some ⟨g, 0, none⟩) 1 c) (hc : w.cell? ⟨g, 0, none⟩ = some u) (h1 : u.oneCell' = true)
    (hb : bytes ≤ 1024) (hn : n ≤ 1000000000) (hbase : base ≤ w.heap.size)
    (e2 : TypeId) (s2 : Nat) (v2 : Value) (n2 : Nat) (xs2 : List Value) (hown2 : w.ownsRow base e2 s2 v2 n2 xs2) (hne : e2 ≠ e) (w0 : World) (hbel : Below base w0 w)
    (h : ∀ v' w', w'.ownsRow base e 1 v' (n + 1) (xs ++ [u]) → w'.ownsRow base e2 s2 v2 n2 xs2 → Below base w0 w' → Hid (∀ (b : Nat) (t : TypeId) (l : List Value), Blk w b t l → t ≠ e → Blk w' b t l) → K (a.put o.dst v') w') :
    if Region.wanted o (yielded ops a.tmps) = true then Oper.wp P o a w K Q else E := by
  have hw : Region.wanted o (yielded ops a.tmps) = true := by simp [Region.wanted, hgd]
  rw [if_pos hw]
  obtain ⟨i, hi, hz, hsz, hby⟩ := info_parts hinfo
  refine wp_append_own w s x t ho base e i z 1 bytes ht hi hz hsz hby hzs (by omega) v n xs hs hown ⟨g, 0, none⟩ 1 c [u] hx rfl ?_ ?_ ?_ ?_ hbase fun v' w' h2 h3 _ =>
    h v' w' h2 (own_other hown2 hown hne h3) (hbel.grown h3 hbase (own_from hown)) (Lib.hid fun _ _ _ hB hT => own_blk hB hown hT h3)
  · intro j y hj
    match j with
    | 0 => simp at hj; subst hj; exact hc
    | j + 1 => simp at hj
  · intro y hy; simp at hy; subst hy; exact h1
  · simp only [maxLen]; omega
  · have : (n + 1) * bytes ≤ (n + 1) * 1024 := Nat.mul_le_mul_left _ hb
    omega
end Go.Proofs.YthoaadfkainpkaaDoor
