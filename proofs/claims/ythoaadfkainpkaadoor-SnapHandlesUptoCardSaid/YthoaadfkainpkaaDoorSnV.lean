/- Small parts of Save: flag, account; snap.Sum. -/
import Derived.Test.YthoaadfkainpkaaDoorSnG
import Derived.Test.YthoaadfkainpkaaDoorSnQ
import Derived.Test.YthoaadfkainpkaaDoorSnW3
import Derived.Deep.RegionHeld3
import Derived.Deep.AppendLies
namespace Go.Proofs.YthoaadfkainpkaaDoor
open Go.RowKit
set_option linter.unusedVariables false

theorem flag0 (w : World) : Calls Tryd.prog 23 #[.bool false] w fun e w' => e = .returned (.int .i64 0) ∧ w' = w := by
  go_enter Tryd.func23, Tryd.ntmps23
  go_wp2
  go_ret
  exact ⟨rfl, rfl⟩

theorem accountOf (a b c d e f : Int) (w : World) : Calls Tryd.prog 24 #[.agg #[.int .i64 a, .int .i64 b, .int .i64 c, .int .i64 d, .int .i64 e, .int .i64 f]] w fun r w' => r = .returned (.slice (some ⟨w.heap.size + 1, 0, none⟩) 6 6) ∧
    w' = (w.alloc (.cells #[.int .i64 a, .int .i64 b, .int .i64 c, .int .i64 d, .int .i64 e, .int .i64 f] 77)).alloc (.cells #[.int .i64 a, .int .i64 b, .int .i64 c, .int .i64 d, .int .i64 e, .int .i64 f] 3) := by
  go_enter Tryd.func24, Tryd.ntmps24
  go_wp2
  go_ret
  exact ⟨by simp, rfl⟩

/-- A block of numbers, read behind a writer's calls. -/
theorem blk_read {w W : World} {g b : Nat} {l : List Int} (h : Blk w g 3 (ints l)) (hg : g ≠ b) (hk : Lib.OthersKept 5 (some b) w W) : IntsAt W 0 (.slice (some ⟨g, 0, none⟩) l.length l.length) l := by
  have h' := h.kept hk hg (by decide)
  refine .inr ⟨g, l.length, rfl, Nat.zero_le _, h'.lt, fun i x hx => h'.at_ ?_⟩
  simp [ints, hx]

/-- A block that a literal has made, as a row of the call's own. -/
theorem own_lit {w : World} {g base n : Nat} {t : TypeId} {l : List Value} (h : Blk w g t l) (hb : base ≤ g) (hn : n = l.length) (hs : l.length ≤ 1000) : w.ownsRow base t 1 (.slice (some ⟨g, 0, none⟩) n n) n l := by
  subst hn
  refine ⟨by simp, .inr ⟨g, l.length, l.toArray, rfl, hb, h, Nat.le_refl _, by simp only [maxLen]; omega, by simp, by simp⟩⟩

def sumStep (h : Int) (x : UInt8) : Int := (bits .xor .u32 h (x.toNat : Int) * 16777619) % 4294967296
/-- A text's sum. -/
def sumI (l : List UInt8) : Int := l.foldl sumStep 2166136261
theorem sumI_bound (l : List UInt8) : 0 ≤ sumI l ∧ sumI l < 4294967296 := by
  have : ∀ (l : List UInt8) (h : Int), 0 ≤ h ∧ h < 4294967296 → 0 ≤ l.foldl sumStep h ∧ l.foldl sumStep h < 4294967296 := by
    intro l
    induction l with
    | nil => intro h hh; exact hh
    | cons x l ih => intro h hh; exact ih _ ⟨Int.emod_nonneg _ (by decide), Int.emod_lt_of_pos _ (by decide)⟩
  exact this l _ (by decide)
theorem sumI_take (l : List UInt8) {k : Nat} {x : UInt8} (h : l[k]? = some x) : sumI (l.take (k + 1)) = sumStep (sumI (l.take k)) x := by
  unfold sumI
  rw [List.take_add_one, h, List.foldl_append]
  rfl

set_option maxHeartbeats 1000000 in
theorem sumOf (s : ByteArray) (hs : s.size ≤ 9223372036854775807) (w : World) : Calls Tryd.prog 5 #[.string s] w fun e w' => e = .returned (.int .u32 (sumI s.data.toList)) ∧ w' = w := by
  have hl : s.data.toList.length = s.size := Array.length_toList
  go_enter Tryd.func5, Tryd.ntmps5
  go_wp2
  go_loop [3, 4] (fun h i => ∃ k : Nat, k ≤ s.size ∧ i = .int .i64 k ∧ h = .int .u32 (sumI (s.data.toList.take k))) (fun _ i => s.size - (intOf i).toNat)
  case atStart => exact ⟨0, by omega, rfl, rfl⟩
  case round =>
    obtain ⟨k, hk, rfl, rfl⟩ := hrel
    by_cases e : k < s.size
    · obtain ⟨x, hx⟩ : ∃ x, s.data.toList[k]? = some x := ⟨_, List.getElem?_eq_getElem (by omega)⟩
      go_wp2
      have hxs : s[k] = x := by
        have h1 : s.data[k]? = some x := by simpa using hx
        exact (Array.getElem?_eq_some_iff.1 h1).2
      refine ⟨⟨k + 1, by omega, by simp, ?_⟩, by simp [intOf]; omega⟩
      rw [sumI_take _ hx, hxs]
      unfold sumStep
      have hlt : (x.toNat : Int) % 4294967296 = x.toNat := Int.emod_eq_of_lt (by omega) (by have := x.toNat_lt; omega)
      rw [hlt]
    · have hkk : k = s.data.toList.length := by omega
      go_wp2
      go_ret
      refine ⟨?_, rfl⟩
      rw [List.take_of_length_le (by omega)]
      rfl
set_option maxHeartbeats 1000000 in
theorem sumRef (s : ByteArray) (hs : s.size ≤ 9223372036854775807) (w : World) : Calls Tryd.prog 6 #[.string s] w fun e w' => e = .returned (.int .u32 (sumI s.data.toList)) ∧ w' = w := by
  have hl : s.data.toList.length = s.size := Array.length_toList
  go_enter Tryd.func6, Tryd.ntmps6
  go_wp2
  go_loop [3, 4] (fun h i => ∃ k : Nat, k ≤ s.size ∧ i = .int .i64 k ∧ h = .int .u32 (sumI (s.data.toList.take k))) (fun _ i => s.size - (intOf i).toNat)
  case atStart => exact ⟨0, by omega, rfl, rfl⟩
  case round =>
    obtain ⟨k, hk, rfl, rfl⟩ := hrel
    by_cases e : k < s.size
    · obtain ⟨x, hx⟩ : ∃ x, s.data.toList[k]? = some x := ⟨_, List.getElem?_eq_getElem (by omega)⟩
      go_wp2
      have hxs : s[k] = x := by
        have h1 : s.data[k]? = some x := by simpa using hx
        exact (Array.getElem?_eq_some_iff.1 h1).2
      refine ⟨⟨k + 1, by omega, by simp, ?_⟩, by simp [intOf]; omega⟩
      rw [sumI_take _ hx, hxs]
      unfold sumStep
      have hlt : (x.toNat : Int) % 4294967296 = x.toNat := Int.emod_eq_of_lt (by omega) (by have := x.toNat_lt; omega)
      rw [hlt]
    · have hkk : k = s.data.toList.length := by omega
      go_wp2
      go_ret
      refine ⟨?_, rfl⟩
      rw [List.take_of_length_le (by omega)]
      rfl

theorem accountZ (w : World) : Calls Tryd.prog 24 #[.agg #[.int .i64 0, .int .i64 0, .int .i64 0, .int .i64 0, .int .i64 0, .int .i64 0]] w fun e w' => ∃ g, e = .returned (.slice (some ⟨g, 0, none⟩) 6 6) ∧ Blk w' g 3 (ints (List.replicate 6 0)) ∧ Below w.heap.size w w' := by
  refine (accountOf 0 0 0 0 0 0 w).mono ?_
  rintro e w' ⟨rfl, rfl⟩
  refine ⟨_, rfl, Blk.newA' _ _ _ (by rw [size_alloc]), ?_⟩
  exact ((Below.refl _ _).alloc (Nat.le_refl _) _).alloc (by rw [size_alloc]; omega) _

theorem own_on {w w' : World} {base n s : Nat} {e : TypeId} {v : Value} {xs : List Value} (h : w.ownsRow base e s v n xs) (hb : Below w.heap.size w w') : w'.ownsRow base e s v n xs := by
  refine ⟨h.1, ?_⟩
  rcases h.2 with hn | ⟨g, cap, cur, hv, h1, h2, r⟩
  · exact .inl hn
  · exact .inr ⟨g, cap, cur, hv, h1, (hb.block g (Array.getElem?_eq_some_iff.1 h2).1).trans h2, r⟩

theorem ints_one (l : List Int) : ∀ u ∈ ints l, u.oneCell' = true := by
  intro u hu
  simp only [ints, List.mem_map] at hu
  obtain ⟨x, _, rfl⟩ := hu
  rfl

/-- 'append(row, more...)' in a region that draws its order, both of numbers. -/
theorem step_more {ops : Array Oper} {o : Oper} {a : Act} {w : World} {K : Act → World → Prop} {Q : Exit → Act → World → Prop} {E : Prop} (hgd : o.guard = none) (s x : Operand)
    (ho : o.op = .call { callee := .builtin .append, args := #[s, x], argTypes := #[60, 60] })
    (base : Nat) (v : Value) (n : Nat) (xs : List Value) (hs : a.eval s = v) (hown : w.ownsRow base 3 1 v n xs)
    (g c m : Nat) (news : List Value) (hx : a.eval x = .slice (some ⟨g, 0, none⟩) m c) (hB : Blk w g 3 news) (hl : news.length = m) (h1 : ∀ u ∈ news, u.oneCell' = true)
    (hm : m ≤ 1000) (hn : n ≤ 1000) (hbase : base ≤ w.heap.size)
    (h : ∀ v' w', w'.ownsRow base 3 1 v' (n + m) (xs ++ news) → Below base w w' → K (a.put o.dst v') w') :
    if Region.wanted o (yielded ops a.tmps) = true then Oper.wp Tryd.prog o a w K Q else E := by
  have hw : Region.wanted o (yielded ops a.tmps) = true := by simp [Region.wanted, hgd]
  rw [if_pos hw]
  obtain ⟨i, hi, hz, hsz, hby⟩ := info_parts infoI
  refine wp_append_own w s x 60 ho base 3 i _ 1 8 Tryd.underlying60 hi hz hsz hby rfl (by omega) v n xs hs hown ⟨g, 0, none⟩ m c news hx (by omega) ?_ h1 ?_ ?_ hbase fun v' w' h2 h3 _ =>
    h v' w' h2 ((Below.refl base w).grown h3 hbase (own_from hown))
  · intro j y hj
    rw [Lib.add_plain, Nat.zero_add] at *
    exact hB.at_ hj
  · simp only [maxLen]; omega
  · omega
end Go.Proofs.YthoaadfkainpkaaDoor
