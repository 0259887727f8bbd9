/- A table of tasks without tasks: All, Slots. -/
import Derived.Test.YthoaadfkainpkaaDoorSnS
import Derived.Test.YthoaadfkainpkaaDoorSnW2
namespace Go.Proofs.YthoaadfkainpkaaDoor
open Go.RowKit
set_option linter.unusedVariables false
variable {w : World} {g gl m : Nat} {kind : Int} {gen : Nat → Int}

/-- A table of tasks, none there. -/
structure TTab (w : World) (g gl : Nat) (kind : Int) (m : Nat) (gen : Nat → Int) : Prop where
  head : Blk w g 138 [.int .i64 kind, .slice (some ⟨gl, 0, none⟩) m m]
  list : Blk w gl 140 (pieces (fun i => tslot (gen i)) m)
namespace TTab
variable {w w' : World} {g gl m : Nat} {kind : Int} {gen : Nat → Int}
theorem below {B : Nat} (h : TTab w g gl kind m gen) (hb : Below B w w') (hg : g < B) (hl : gl < B) : TTab w' g gl kind m gen := ⟨h.head.below hb hg, h.list.below hb hl⟩
theorem drewN (h : TTab w g gl kind m gen) (n : Nat) : TTab (w.drewN n) g gl kind m gen := ⟨h.head, h.list⟩
theorem drew (h : TTab w g gl kind m gen) : TTab w.drew g gl kind m gen := ⟨h.head, h.list⟩
theorem alloc (h : TTab w g gl kind m gen) (o : Obj) : TTab (w.alloc o) g gl kind m gen := ⟨h.head.alloc o, h.list.alloc o⟩
theorem c1 (h : TTab w g gl kind m gen) : w.cell? ⟨g, 1, none⟩ = some (.slice (some ⟨gl, 0, none⟩) m m) := h.head.at_ rfl
theorem s0 (h : TTab w g gl kind m gen) {i : Nat} (hi : i < m) : w.cell? ⟨gl, i * 10, none⟩ = some (.int .i64 (gen i)) := (h.list.cell _).trans (pieces_at (f := fun i => tslot (gen i)) (s := 10) (fun _ => rfl) (j := 0) (by omega) hi)
theorem s1 (h : TTab w g gl kind m gen) {i : Nat} (hi : i < m) : w.cell? ⟨gl, i * 10 + 1, none⟩ = some (.bool false) := (h.list.cell _).trans (pieces_at (f := fun i => tslot (gen i)) (s := 10) (fun _ => rfl) (j := 1) (by omega) hi)
theorem s2 (h : TTab w g gl kind m gen) {i : Nat} (hi : i < m) : w.cell? ⟨gl, i * 10 + 2, none⟩ = some (.int .i64 0) := (h.list.cell _).trans (pieces_at (f := fun i => tslot (gen i)) (s := 10) (fun _ => rfl) (j := 2) (by omega) hi)
theorem s3 (h : TTab w g gl kind m gen) {i : Nat} (hi : i < m) : w.cell? ⟨gl, i * 10 + 3, none⟩ = some (.slice none 0 0) := (h.list.cell _).trans (pieces_at (f := fun i => tslot (gen i)) (s := 10) (fun _ => rfl) (j := 3) (by omega) hi)
theorem s4 (h : TTab w g gl kind m gen) {i : Nat} (hi : i < m) : w.cell? ⟨gl, i * 10 + 4, none⟩ = some (.int .i64 0) := (h.list.cell _).trans (pieces_at (f := fun i => tslot (gen i)) (s := 10) (fun _ => rfl) (j := 4) (by omega) hi)
theorem s5 (h : TTab w g gl kind m gen) {i : Nat} (hi : i < m) : w.cell? ⟨gl, i * 10 + 5, none⟩ = some (.int .i64 0) := (h.list.cell _).trans (pieces_at (f := fun i => tslot (gen i)) (s := 10) (fun _ => rfl) (j := 5) (by omega) hi)
theorem s6 (h : TTab w g gl kind m gen) {i : Nat} (hi : i < m) : w.cell? ⟨gl, i * 10 + 6, none⟩ = some (.int .i64 0) := (h.list.cell _).trans (pieces_at (f := fun i => tslot (gen i)) (s := 10) (fun _ => rfl) (j := 6) (by omega) hi)
theorem s7 (h : TTab w g gl kind m gen) {i : Nat} (hi : i < m) : w.cell? ⟨gl, i * 10 + 7, none⟩ = some (.int .i64 0) := (h.list.cell _).trans (pieces_at (f := fun i => tslot (gen i)) (s := 10) (fun _ => rfl) (j := 7) (by omega) hi)
theorem s8 (h : TTab w g gl kind m gen) {i : Nat} (hi : i < m) : w.cell? ⟨gl, i * 10 + 8, none⟩ = some (.int .i64 0) := (h.list.cell _).trans (pieces_at (f := fun i => tslot (gen i)) (s := 10) (fun _ => rfl) (j := 8) (by omega) hi)
theorem s9 (h : TTab w g gl kind m gen) {i : Nat} (hi : i < m) : w.cell? ⟨gl, i * 10 + 9, none⟩ = some (.int .i64 0) := (h.list.cell _).trans (pieces_at (f := fun i => tslot (gen i)) (s := 10) (fun _ => rfl) (j := 9) (by omega) hi)
end TTab

set_option maxHeartbeats 4000000 in
theorem slotsT (h : TTab w g gl kind m gen) (hm : m ≤ 4096) :
    Calls Tryd.prog 54 #[.pointer (some ⟨g, 0, none⟩)] w fun e w' => ∃ v u, e = .returned (.tuple #[v, u]) ∧ w'.ownsRow w.heap.size 3 1 v m (gensTo gen m) ∧
      w'.ownsRow w.heap.size 4 1 u m (takenTo (fun _ => false) m) ∧ Below w.heap.size w w' := by
  have hlt : g < w.heap.size := h.head.lt
  have hll : gl < w.heap.size := h.list.lt
  have H := Lib.hid h
  have c1 := h.c1
  clear h
  go_enter Tryd.func54, Tryd.ntmps54
  go_wp2
  go_loopw [4, 5, 15] (fun v u i wr => ∃ k : Nat, k ≤ m ∧ i = .int .i64 k ∧ wr.ownsRow w.heap.size 3 1 v k (gensTo gen k) ∧ wr.ownsRow w.heap.size 4 1 u k (takenTo (fun _ => false) k) ∧ Below w.heap.size w wr) (fun _ _ i _ => m - (intOf i).toNat)
  case atStart => exact ⟨0, by omega, rfl, own_nil _ _ _ _, own_nil _ _ _ _, Below.refl _ _⟩
  case round =>
    obtain ⟨k, hk, rfl, hown, hown2, hbel⟩ := hrel
    have HO := Lib.hid hown
    have HP := Lib.hid hown2
    have HW := Lib.hid hbel
    have hsz : w.heap.size ≤ wr.heap.size := hbel.size
    have T := Lib.hid (H.out.below hbel hlt hll)
    clear hown hown2 hbel
    by_cases e : k < m
    · have s0 := T.out.s0 e
      have s1 := T.out.s1 e
      have s2 := T.out.s2 e
      have s3 := T.out.s3 e
      have s4 := T.out.s4 e
      have s5 := T.out.s5 e
      have s6 := T.out.s6 e
      have s7 := T.out.s7 e
      have s8 := T.out.s8 e
      have s9 := T.out.s9 e
      have hm' : k ≤ 1000000000 := by omega
      go_wp2
      have A1 := HO.out.alloc (.cells #[Value.int IntKind.i64 (gen k), Value.bool false, Value.int IntKind.i64 0, Value.slice none 0 0, Value.int IntKind.i64 0, Value.int IntKind.i64 0, Value.int IntKind.i64 0, Value.int IntKind.i64 0, Value.int IntKind.i64 0, Value.int IntKind.i64 0] 140)
      have A2 := HP.out.alloc (.cells #[Value.int IntKind.i64 (gen k), Value.bool false, Value.int IntKind.i64 0, Value.slice none 0 0, Value.int IntKind.i64 0, Value.int IntKind.i64 0, Value.int IntKind.i64 0, Value.int IntKind.i64 0, Value.int IntKind.i64 0, Value.int IntKind.i64 0] 140)
      have A3 := HW.out.alloc hsz (.cells #[Value.int IntKind.i64 (gen k), Value.bool false, Value.int IntKind.i64 0, Value.slice none 0 0, Value.int IntKind.i64 0, Value.int IntKind.i64 0, Value.int IntKind.i64 0, Value.int IntKind.i64 0, Value.int IntKind.i64 0, Value.int IntKind.i64 0] 140)
      have B1 := Blk.newA wr #[Value.int IntKind.i64 (gen k), Value.bool false, Value.int IntKind.i64 0, Value.slice none 0 0, Value.int IntKind.i64 0, Value.int IntKind.i64 0, Value.int IntKind.i64 0, Value.int IntKind.i64 0, Value.int IntKind.i64 0, Value.int IntKind.i64 0] 140
      have d0 := B1.at_ (i := 0) rfl
      have d1 := B1.at_ (i := 1) rfl
      have hz : w.heap.size ≤ (wr.alloc (.cells #[Value.int IntKind.i64 (gen k), Value.bool false, Value.int IntKind.i64 0, Value.slice none 0 0, Value.int IntKind.i64 0, Value.int IntKind.i64 0, Value.int IntKind.i64 0, Value.int IntKind.i64 0, Value.int IntKind.i64 0, Value.int IntKind.i64 0] 140)).heap.size := A3.size
      have hpl := B1.lt
      clear s0 s1 s2 s3 s4 s5 s6 s7 s8 s9 T
      generalize wr.alloc (.cells #[Value.int IntKind.i64 (gen k), Value.bool false, Value.int IntKind.i64 0, Value.slice none 0 0, Value.int IntKind.i64 0, Value.int IntKind.i64 0, Value.int IntKind.i64 0, Value.int IntKind.i64 0, Value.int IntKind.i64 0, Value.int IntKind.i64 0] 140) = W at *
      go_region_law (first
        | (
           refine step_app1 rfl (.tmp 19) (.tmp 22) 60 rfl w.heap.size 3 (.int .i64 0) 8 Tryd.underlying60 infoI rfl u4 k (gensTo gen k) rfl ?_ _ 1 (.int .i64 (gen k)) rfl ?_ rfl (by omega) hm' ?_ 4 1 u5 k (takenTo (fun _ => false) k) ?_ (by decide) w ?_ ?_
           · repeat' (first | (with_reducible assumption) | (with_reducible apply World.ownsRow.alloc) | (with_reducible apply World.ownsRow.drew))
           · first | (simp; done) | exact (KK.out _ _ _ (by first | ((with_reducible refine Blk.drew (Blk.newA' _ _ _ ?_)); (first | rfl | (simp; done))) | ((with_reducible refine Blk.drew ((Blk.newA' _ _ _ ?_).alloc _)); (first | rfl | (simp; done))) | ((with_reducible refine Blk.newA' _ _ _ ?_); (first | rfl | (simp; done))) | ((with_reducible refine (Blk.newA' _ _ _ ?_).alloc _); (first | rfl | (simp; done)))) (by decide)).at_ rfl
           · first | omega | (simp only [size_alloc]; omega) | (simp; omega) | (simp; done)
           · repeat' (first | (with_reducible assumption) | (with_reducible apply World.ownsRow.alloc) | (with_reducible apply World.ownsRow.drew))
           · repeat' (first | (with_reducible assumption) | (with_reducible refine Below.alloc ?_ (by first | omega | (simp only [size_alloc]; omega) | (simp; omega) | (simp; done)) _) | (with_reducible apply Below.drew))
           intro v1 w1 P1 P2 P3 KK
           have Z1 := P3.size
           have BB := KK.out wr.heap.size 140 [Value.int IntKind.i64 (gen k), Value.bool false, Value.int IntKind.i64 0, Value.slice none 0 0, Value.int IntKind.i64 0, Value.int IntKind.i64 0, Value.int IntKind.i64 0, Value.int IntKind.i64 0, Value.int IntKind.i64 0, Value.int IntKind.i64 0] (by repeat' (first | (with_reducible assumption) | (with_reducible apply Blk.alloc) | (with_reducible apply Blk.drew))) (by decide)
           have Z2 := BB.lt
           have q0 := BB.at_ (i := 0) rfl
           have q1 := BB.at_ (i := 1) rfl)
        | (
           refine step_app1 rfl (.tmp 24) (.tmp 27) 62 rfl w.heap.size 4 (.bool false) 1 Tryd.underlying62 infoB rfl u5 k (takenTo (fun _ => false) k) rfl ?_ _ 1 (.bool (false)) rfl ?_ rfl (by omega) hm' ?_ 3 1 u4 k (gensTo gen k) ?_ (by decide) w ?_ ?_
           · repeat' (first | (with_reducible assumption) | (with_reducible apply World.ownsRow.alloc) | (with_reducible apply World.ownsRow.drew))
           · first | (simp; done) | exact (KK.out _ _ _ (by first | ((with_reducible refine Blk.drew (Blk.newA' _ _ _ ?_)); (first | rfl | (simp; done))) | ((with_reducible refine Blk.drew ((Blk.newA' _ _ _ ?_).alloc _)); (first | rfl | (simp; done))) | ((with_reducible refine Blk.newA' _ _ _ ?_); (first | rfl | (simp; done))) | ((with_reducible refine (Blk.newA' _ _ _ ?_).alloc _); (first | rfl | (simp; done)))) (by decide)).at_ rfl
           · first | omega | (simp only [size_alloc]; omega) | (simp; omega) | (simp; done)
           · repeat' (first | (with_reducible assumption) | (with_reducible apply World.ownsRow.alloc) | (with_reducible apply World.ownsRow.drew))
           · repeat' (first | (with_reducible assumption) | (with_reducible refine Below.alloc ?_ (by first | omega | (simp only [size_alloc]; omega) | (simp; omega) | (simp; done)) _) | (with_reducible apply Below.drew))
           intro v1 w1 P1 P2 P3 KK
           have Z1 := P3.size
           have BB := KK.out wr.heap.size 140 [Value.int IntKind.i64 (gen k), Value.bool false, Value.int IntKind.i64 0, Value.slice none 0 0, Value.int IntKind.i64 0, Value.int IntKind.i64 0, Value.int IntKind.i64 0, Value.int IntKind.i64 0, Value.int IntKind.i64 0, Value.int IntKind.i64 0] (by repeat' (first | (with_reducible assumption) | (with_reducible apply Blk.alloc) | (with_reducible apply Blk.drew))) (by decide)
           have Z2 := BB.lt
           have q0 := BB.at_ (i := 0) rfl
           have q1 := BB.at_ (i := 1) rfl)
        | (
           refine step_app1 rfl (.tmp 19) (.tmp 22) 60 rfl w.heap.size 3 (.int .i64 0) 8 Tryd.underlying60 infoI rfl u4 k (gensTo gen k) rfl ?_ _ 1 (.int .i64 (gen k)) rfl ?_ rfl (by omega) hm' ?_ 4 1 v1 (k + 1) (takenTo (fun _ => false) k ++ [.bool (false)]) ?_ (by decide) w ?_ ?_
           · repeat' (first | (with_reducible assumption) | (with_reducible apply World.ownsRow.alloc) | (with_reducible apply World.ownsRow.drew))
           · first | (simp; done) | exact (KK.out _ _ _ (by first | ((with_reducible refine Blk.drew (Blk.newA' _ _ _ ?_)); (first | rfl | (simp; done))) | ((with_reducible refine Blk.drew ((Blk.newA' _ _ _ ?_).alloc _)); (first | rfl | (simp; done))) | ((with_reducible refine Blk.newA' _ _ _ ?_); (first | rfl | (simp; done))) | ((with_reducible refine (Blk.newA' _ _ _ ?_).alloc _); (first | rfl | (simp; done)))) (by decide)).at_ rfl
           · first | omega | (simp only [size_alloc]; omega) | (simp; omega) | (simp; done)
           · repeat' (first | (with_reducible assumption) | (with_reducible apply World.ownsRow.alloc) | (with_reducible apply World.ownsRow.drew))
           · repeat' (first | (with_reducible assumption) | (with_reducible refine Below.alloc ?_ (by first | omega | (simp only [size_alloc]; omega) | (simp; omega) | (simp; done)) _) | (with_reducible apply Below.drew))
           intro v1 w1 P1 P2 P3 KK
           have Z1 := P3.size
           have BB := KK.out wr.heap.size 140 [Value.int IntKind.i64 (gen k), Value.bool false, Value.int IntKind.i64 0, Value.slice none 0 0, Value.int IntKind.i64 0, Value.int IntKind.i64 0, Value.int IntKind.i64 0, Value.int IntKind.i64 0, Value.int IntKind.i64 0, Value.int IntKind.i64 0] (by repeat' (first | (with_reducible assumption) | (with_reducible apply Blk.alloc) | (with_reducible apply Blk.drew))) (by decide)
           have Z2 := BB.lt
           have q0 := BB.at_ (i := 0) rfl
           have q1 := BB.at_ (i := 1) rfl)
        | (
           refine step_app1 rfl (.tmp 24) (.tmp 27) 62 rfl w.heap.size 4 (.bool false) 1 Tryd.underlying62 infoB rfl u5 k (takenTo (fun _ => false) k) rfl ?_ _ 1 (.bool (false)) rfl ?_ rfl (by omega) hm' ?_ 3 1 v1 (k + 1) (gensTo gen k ++ [.int .i64 (gen k)]) ?_ (by decide) w ?_ ?_
           · repeat' (first | (with_reducible assumption) | (with_reducible apply World.ownsRow.alloc) | (with_reducible apply World.ownsRow.drew))
           · first | (simp; done) | exact (KK.out _ _ _ (by first | ((with_reducible refine Blk.drew (Blk.newA' _ _ _ ?_)); (first | rfl | (simp; done))) | ((with_reducible refine Blk.drew ((Blk.newA' _ _ _ ?_).alloc _)); (first | rfl | (simp; done))) | ((with_reducible refine Blk.newA' _ _ _ ?_); (first | rfl | (simp; done))) | ((with_reducible refine (Blk.newA' _ _ _ ?_).alloc _); (first | rfl | (simp; done)))) (by decide)).at_ rfl
           · first | omega | (simp only [size_alloc]; omega) | (simp; omega) | (simp; done)
           · repeat' (first | (with_reducible assumption) | (with_reducible apply World.ownsRow.alloc) | (with_reducible apply World.ownsRow.drew))
           · repeat' (first | (with_reducible assumption) | (with_reducible refine Below.alloc ?_ (by first | omega | (simp only [size_alloc]; omega) | (simp; omega) | (simp; done)) _) | (with_reducible apply Below.drew))
           intro v1 w1 P1 P2 P3 KK
           have Z1 := P3.size
           have BB := KK.out wr.heap.size 140 [Value.int IntKind.i64 (gen k), Value.bool false, Value.int IntKind.i64 0, Value.slice none 0 0, Value.int IntKind.i64 0, Value.int IntKind.i64 0, Value.int IntKind.i64 0, Value.int IntKind.i64 0, Value.int IntKind.i64 0, Value.int IntKind.i64 0] (by repeat' (first | (with_reducible assumption) | (with_reducible apply Blk.alloc) | (with_reducible apply Blk.drew))) (by decide)
           have Z2 := BB.lt
           have q0 := BB.at_ (i := 0) rfl
           have q1 := BB.at_ (i := 1) rfl))
      all_goals
        go_wp2
        go_roundw
        case rel =>
          refine ⟨k + 1, by omega, by go_num, ?_, ?_, P3⟩
          · rw [gensTo_succ]; first | exact P1 | exact P2
          · rw [takenTo_succ]; first | exact P1 | exact P2
        case measure => simp [intOf]; omega
    · have e : k = m := by omega
      subst e
      go_wp2
      go_ret2
      exact ⟨_, _, rfl, HO.out, HP.out, HW.out⟩
end Go.Proofs.YthoaadfkainpkaaDoor
