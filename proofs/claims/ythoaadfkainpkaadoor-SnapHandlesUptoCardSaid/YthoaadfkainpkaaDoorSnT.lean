/- A table of nodes: name, find, Get at what is there. -/
import Derived.Test.YthoaadfkainpkaaDoorSnH
import Derived.Test.YthoaadfkainpkaaDoorSnN
namespace Go.Proofs.YthoaadfkainpkaaDoor
open Go.RowKit
set_option linter.unusedVariables false

/-- A table of nodes: the block of the table, the block of its slots. -/
structure NTab (w : World) (g gl : Nat) (kind : Int) (m : Nat) (gen : Nat → Int) (tk : Nat → Bool) (th : Nat → Option Addr) : Prop where
  head : Blk w g 95 [.int .i64 kind, .slice (some ⟨gl, 0, none⟩) m m]
  list : Blk w gl 97 (pieces (fun i => nslot (gen i) (tk i) (th i)) m)

namespace NTab
variable {w w' : World} {g gl m : Nat} {kind : Int} {gen : Nat → Int} {tk : Nat → Bool} {th : Nat → Option Addr}
theorem below {B : Nat} (h : NTab w g gl kind m gen tk th) (hb : Below B w w') (hg : g < B) (hl : gl < B) : NTab w' g gl kind m gen tk th := ⟨h.head.below hb hg, h.list.below hb hl⟩
theorem drewN (h : NTab w g gl kind m gen tk th) (n : Nat) : NTab (w.drewN n) g gl kind m gen tk th := ⟨h.head, h.list⟩
theorem drew (h : NTab w g gl kind m gen tk th) : NTab w.drew g gl kind m gen tk th := ⟨h.head, h.list⟩
theorem alloc (h : NTab w g gl kind m gen tk th) (o : Obj) : NTab (w.alloc o) g gl kind m gen tk th := ⟨h.head.alloc o, h.list.alloc o⟩
theorem c0 (h : NTab w g gl kind m gen tk th) : w.cell? ⟨g, 0, none⟩ = some (.int .i64 kind) := h.head.at_ rfl
theorem c1 (h : NTab w g gl kind m gen tk th) : w.cell? ⟨g, 1, none⟩ = some (.slice (some ⟨gl, 0, none⟩) m m) := h.head.at_ rfl
theorem s0 (h : NTab w g gl kind m gen tk th) {i : Nat} (hi : i < m) : w.cell? ⟨gl, i * 3, none⟩ = some (.int .i64 (gen i)) :=
  (h.list.cell _).trans (pieces_at (f := fun i => nslot (gen i) (tk i) (th i)) (s := 3) (fun _ => rfl) (j := 0) (by omega) hi)
theorem s1 (h : NTab w g gl kind m gen tk th) {i : Nat} (hi : i < m) : w.cell? ⟨gl, i * 3 + 1, none⟩ = some (.bool (tk i)) :=
  (h.list.cell _).trans (pieces_at (f := fun i => nslot (gen i) (tk i) (th i)) (s := 3) (fun _ => rfl) (j := 1) (by omega) hi)
theorem s2 (h : NTab w g gl kind m gen tk th) {i : Nat} (hi : i < m) : w.cell? ⟨gl, i * 3 + 2, none⟩ = some (.pointer (th i)) :=
  (h.list.cell _).trans (pieces_at (f := fun i => nslot (gen i) (tk i) (th i)) (s := 3) (fun _ => rfl) (j := 2) (by omega) hi)
end NTab

variable {w : World} {g gl m : Nat} {kind : Int} {gen : Nat → Int} {tk : Nat → Bool} {th : Nat → Option Addr}

set_option maxHeartbeats 400000 in
theorem nameN (i : Nat) (h : NTab w g gl kind m gen tk th) (hi : i < m) (hm : m ≤ 4096) (hb : mayBe kind i (gen i)) :
    Calls Tryd.prog 35 #[.pointer (some ⟨g, 0, none⟩), .int .i64 i] w fun e w' => e = .returned (.int .i64 (hnd kind i (gen i))) ∧ ∃ n, w' = w.drewN n := by
  have c0 := h.c0
  have c1 := h.c1
  have s0 := h.s0 hi
  clear h
  go_enter Tryd.func35, Tryd.ntmps35
  go_wp2
  go_quiet ((go_at_call 46; exact quiet_left fun _ => make_ok _ _ _ _ hb))
  go_wp2
  go_ret
  exact ⟨rfl, nq, rfl⟩

set_option maxHeartbeats 1000000 in
theorem findN (x : Int) (i : Nat) (h : NTab w g gl kind m gen tk th) (hi : i < m) (hm : m ≤ 4096) (ht : tk i = true) (hb : mayBe kind i (gen i)) (hx : x = hnd kind i (gen i)) :
    Calls Tryd.prog 51 #[.pointer (some ⟨g, 0, none⟩), .int .i64 x] w fun e w' => e = .returned (.tuple #[.pointer (some ⟨gl, i * 3, none⟩), .nilIface]) ∧ ∃ n, w' = w.drewN n := by
  have hv := hvalid_hnd hb
  have K : ∀ W : World, Calls Tryd.prog 67 #[.int .i64 x] W fun e w' => e = .returned (.int .i64 kind) ∧ W = w' := fun W => by
    have := kind_ok x W (by rw [hx]; exact hv)
    rwa [hx, hkind_hnd hb, ← hx] at this
  have S : ∀ W : World, Calls Tryd.prog 68 #[.int .i64 x] W fun e w' => e = .returned (.int .i64 (i : Int)) ∧ W = w' := fun W => by
    have := slot_ok x W (by rw [hx]; exact hv)
    rwa [hx, hslot_hnd hb, ← hx] at this
  have G : ∀ W : World, Calls Tryd.prog 69 #[.int .i64 x] W fun e w' => e = .returned (.int .i64 (gen i)) ∧ W = w' := fun W => by
    have := gen_ok x W (by rw [hx]; exact hv)
    rwa [hx, hgen_hnd hb, ← hx] at this
  have HK := Lib.hid K
  have HS := Lib.hid S
  have HG := Lib.hid G
  have c0 := h.c0
  have c1 := h.c1
  have s0 := h.s0 hi
  have s1 := h.s1 hi
  rw [ht] at s1
  have hlt : (i : Int) < (m : Int) := by omega
  clear h hx ht hv K S G hb
  go_enter Tryd.func51, Tryd.ntmps51
  go_wp2
  go_quiet ((go_at_call 67; exact quiet_left HK.out))
  go_wp2_with (go_at_call 68; refine (HS.out _).mono ?_; rintro e w' ⟨rfl, rfl⟩)
  go_quiet ((go_at_call 69; first | exact quiet_left_add HG.out | exact quiet_left HG.out))
  go_wp2
  go_ret2
  exact ⟨rfl, _, rfl⟩

set_option maxHeartbeats 400000 in
theorem getN (x : Int) (i : Nat) (h : NTab w g gl kind m gen tk th) (hi : i < m) (hm : m ≤ 4096) (ht : tk i = true) (hb : mayBe kind i (gen i)) (hx : x = hnd kind i (gen i)) :
    Calls Tryd.prog 39 #[.pointer (some ⟨g, 0, none⟩), .int .i64 x] w fun e w' => e = .returned (.tuple #[.pointer (th i), .nilIface]) ∧ ∃ n, w' = w.drewN n := by
  have F := Lib.hid (findN x i h hi hm ht hb hx)
  have s2 := h.s2 hi
  clear h hx ht hb
  go_enter Tryd.func39, Tryd.ntmps39
  go_wp2_with (go_at_call 51; refine F.out.mono ?_; rintro e w' ⟨rfl, nq, rfl⟩)
  go_ret2
  exact ⟨rfl, _, rfl⟩

theorem tyNe : (95 : Nat) ≠ 97 := by decide

theorem NTab.put (h : NTab w g gl kind m gen tk th) {i : Nat} (hi : i < m) (A : Option Addr) :
    NTab ((w.setCell ⟨gl, i * 3 + 1, none⟩ (.bool true)).setCell ⟨gl, i * 3 + 2, none⟩ (.pointer A)) g gl kind m gen (fun j => if j = i then true else tk j) (fun j => if j = i then A else th j) := by
  have hne : g ≠ gl := h.head.ne_ h.list tyNe
  refine ⟨(h.head.far (p := ⟨gl, i * 3 + 1, none⟩) hne _).far (p := ⟨gl, i * 3 + 2, none⟩) hne _, ?_⟩
  have e := (h.list.set_ (i * 3 + 1) (.bool true)).set_ (i * 3 + 2) (.pointer A)
  rw [pieces_set (s := 3) (fun _ => rfl) (by omega) _ hi, pieces_set (s := 3) (fun k => by split <;> rfl) (by omega) _ hi] at e
  refine Eq.mp ?_ e
  congr 1
  refine pieces_congr fun j hj => ?_
  by_cases c : j = i
  · subst c; simp [nslot]
  · simp [c]

set_option maxHeartbeats 2000000 in
theorem addN (i : Nat) (A : Option Addr) (h : NTab w g gl kind m gen tk th) (hi : i < m) (hm : m ≤ 4096) (ht : tk i = false) (hb : mayBe kind i (gen i)) (hmin : ∀ j, j < i → tk j = true ∨ 1023 < gen j) :
    Calls Tryd.prog 17 #[.pointer (some ⟨g, 0, none⟩), .pointer A] w fun e w' => e = .returned (.tuple #[.int .i64 (hnd kind i (gen i)), .nilIface]) ∧
      NTab w' g gl kind m gen (fun j => if j = i then true else tk j) (fun j => if j = i then A else th j) ∧ w.grownBy w' (some gl) := by
  have hgen : gen i ≤ 1023 := hb.2.2.2.2.2
  have HB := Lib.hid hb
  have HM := Lib.hid hmin
  have H := Lib.hid h
  have hne : g ≠ gl := h.head.ne_ h.list tyNe
  have c1 := h.c1
  clear hb hmin h
  go_enter Tryd.func17, Tryd.ntmps17
  go_wp2
  go_loop [16] (fun u => ∃ k : Nat, k ≤ i ∧ u = .int .i64 k) (fun u => m - (intOf u).toNat)
  case atStart => exact ⟨0, by omega, rfl⟩
  case round =>
    obtain ⟨k, hk, rfl⟩ := hrel
    have s0 := H.out.s0 (i := k) (by omega)
    have s1 := H.out.s1 (i := k) (by omega)
    by_cases e : k = i
    · subst e
      rw [ht] at s1
      have s2 := H.out.s2 hi
      have f1 := H.out.list.frozen (k * 3 + 1)
      have f2 := H.out.list.frozen (k * 3 + 2)
      have hn := Lib.hid (H.out.put hi A)
      have G := Lib.hid (grown_set (grown_set (World.grownBy.refl w (some gl)) (p := ⟨gl, k * 3 + 1, none⟩) rfl (.bool true)) (p := ⟨gl, k * 3 + 2, none⟩) rfl (.pointer A))
      go_wp2_with (go_at_call 35; refine (nameN k hn.out hi hm HB.out).mono ?_; rintro e w' ⟨rfl, nq, rfl⟩)
      go_ret2
      exact ⟨rfl, hn.out.drewN _, grown_drewN G.out _⟩
    · have hki : k < i := by omega
      have hkm : k < m := by omega
      have hq := HM.out k hki
      cases htk : tk k with
      | true =>
        rw [htk] at s1
        clear hq htk
        go_wp2
        go_round
        case rel => exact ⟨k + 1, by omega, by go_num⟩
        case measure => simp [intOf]; omega
      | false =>
        rw [htk] at s1
        have hg : 1023 < gen k := by
          rcases hq with h | h
          · rw [htk] at h; cases h
          · exact h
        clear hq htk
        go_wp2
        go_round
        case rel => exact ⟨k + 1, by omega, by go_num⟩
        case measure => simp [intOf]; omega
end Go.Proofs.YthoaadfkainpkaaDoor
