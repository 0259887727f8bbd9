/- A table of nodes: Slots. -/
import Derived.Test.YthoaadfkainpkaaDoorSnA
import Derived.Test.YthoaadfkainpkaaDoorSnW2
namespace Go.Proofs.YthoaadfkainpkaaDoor
open Go.RowKit
set_option linter.unusedVariables false
variable {w : World} {g gl m : Nat} {kind : Int} {gen : Nat → Int} {tk : Nat → Bool} {th : Nat → Option Addr}

def gensTo (gen : Nat → Int) (k : Nat) : List Value := (List.range k).map fun j => .int .i64 (gen j)
def takenTo (tk : Nat → Bool) (k : Nat) : List Value := (List.range k).map fun j => .bool (tk j)
theorem gensTo_succ (k : Nat) : gensTo gen (k + 1) = gensTo gen k ++ [.int .i64 (gen k)] := by simp [gensTo, List.range_succ]
theorem takenTo_succ (k : Nat) : takenTo tk (k + 1) = takenTo tk k ++ [.bool (tk k)] := by simp [takenTo, List.range_succ]

set_option maxHeartbeats 4000000 in
theorem slotsN (h : NTab w g gl kind m gen tk th) (hm : m ≤ 4096) :
    Calls Tryd.prog 37 #[.pointer (some ⟨g, 0, none⟩)] w fun e w' => ∃ v u, e = .returned (.tuple #[v, u]) ∧ w'.ownsRow w.heap.size 3 1 v m (gensTo gen m) ∧
      w'.ownsRow w.heap.size 4 1 u m (takenTo tk m) ∧ Below w.heap.size w w' := by
  have hlt : g < w.heap.size := h.head.lt
  have hll : gl < w.heap.size := h.list.lt
  have H := Lib.hid h
  have c1 := h.c1
  clear h
  go_enter Tryd.func37, Tryd.ntmps37
  go_wp2
  go_loopw [4, 5, 15] (fun v u i wr => ∃ k : Nat, k ≤ m ∧ i = .int .i64 k ∧ wr.ownsRow w.heap.size 3 1 v k (gensTo gen k) ∧ wr.ownsRow w.heap.size 4 1 u k (takenTo tk k) ∧ Below w.heap.size w wr) (fun _ _ i _ => m - (intOf i).toNat)
  case atStart => exact ⟨0, by omega, rfl, own_nil _ _ _ _, own_nil _ _ _ _, Below.refl _ _⟩
  case round =>
    obtain ⟨k, hk, rfl, hown, hown2, hbel⟩ := hrel
    have HO := Lib.hid hown
    have HP := Lib.hid hown2
    have HW := Lib.hid hbel
    have hsz : w.heap.size ≤ wr.heap.size := hbel.size
    have T := Lib.hid (H.out.below hbel hlt hll)
    clear hown hown2 hbel
    by_cases e : k < m
    · have s0 := T.out.s0 e
      have s1 := T.out.s1 e
      have s2 := T.out.s2 e
      have hm' : k ≤ 1000000000 := by omega
      go_wp2
      have A1 := HO.out.alloc (.cells #[Value.int IntKind.i64 (gen k), Value.bool (tk k), Value.pointer (th k)] 97)
      have A2 := HP.out.alloc (.cells #[Value.int IntKind.i64 (gen k), Value.bool (tk k), Value.pointer (th k)] 97)
      have A3 := HW.out.alloc hsz (.cells #[Value.int IntKind.i64 (gen k), Value.bool (tk k), Value.pointer (th k)] 97)
      have B1 := Blk.newA wr #[Value.int IntKind.i64 (gen k), Value.bool (tk k), Value.pointer (th k)] 97
      have d0 := B1.at_ (i := 0) rfl
      have d1 := B1.at_ (i := 1) rfl
      have hz : w.heap.size ≤ (wr.alloc (.cells #[Value.int IntKind.i64 (gen k), Value.bool (tk k), Value.pointer (th k)] 97)).heap.size := A3.size
      have hpl := B1.lt
      clear s0 s1 s2 T
      generalize wr.alloc (.cells #[Value.int IntKind.i64 (gen k), Value.bool (tk k), Value.pointer (th k)] 97) = W at *
      go_region_law (first
        | (
           refine step_app1 rfl (.tmp 19) (.tmp 22) 60 rfl w.heap.size 3 (.int .i64 0) 8 Tryd.underlying60 infoI rfl u4 k (gensTo gen k) rfl ?_ _ 1 (.int .i64 (gen k)) rfl ?_ rfl (by omega) hm' ?_ 4 1 u5 k (takenTo tk k) ?_ (by decide) w ?_ ?_
           · repeat' (first | (with_reducible assumption) | (with_reducible apply World.ownsRow.alloc) | (with_reducible apply World.ownsRow.drew))
           · first | (simp; done) | exact (KK.out _ _ _ (by first | ((with_reducible refine Blk.drew (Blk.newA' _ _ _ ?_)); (first | rfl | (simp; done))) | ((with_reducible refine Blk.drew ((Blk.newA' _ _ _ ?_).alloc _)); (first | rfl | (simp; done))) | ((with_reducible refine Blk.newA' _ _ _ ?_); (first | rfl | (simp; done))) | ((with_reducible refine (Blk.newA' _ _ _ ?_).alloc _); (first | rfl | (simp; done)))) (by decide)).at_ rfl
           · first | omega | (simp only [size_alloc]; omega) | (simp; omega) | (simp; done)
           · repeat' (first | (with_reducible assumption) | (with_reducible apply World.ownsRow.alloc) | (with_reducible apply World.ownsRow.drew))
           · repeat' (first | (with_reducible assumption) | (with_reducible refine Below.alloc ?_ (by first | omega | (simp only [size_alloc]; omega) | (simp; omega) | (simp; done)) _) | (with_reducible apply Below.drew))
           intro v1 w1 P1 P2 P3 KK
           have Z1 := P3.size
           have BB := KK.out wr.heap.size 97 [Value.int IntKind.i64 (gen k), Value.bool (tk k), Value.pointer (th k)] (by repeat' (first | (with_reducible assumption) | (with_reducible apply Blk.alloc) | (with_reducible apply Blk.drew))) (by decide)
           have Z2 := BB.lt
           have q0 := BB.at_ (i := 0) rfl
           have q1 := BB.at_ (i := 1) rfl)
        | (
           refine step_app1 rfl (.tmp 24) (.tmp 27) 62 rfl w.heap.size 4 (.bool false) 1 Tryd.underlying62 infoB rfl u5 k (takenTo tk k) rfl ?_ _ 1 (.bool (tk k)) rfl ?_ rfl (by omega) hm' ?_ 3 1 u4 k (gensTo gen k) ?_ (by decide) w ?_ ?_
           · repeat' (first | (with_reducible assumption) | (with_reducible apply World.ownsRow.alloc) | (with_reducible apply World.ownsRow.drew))
           · first | (simp; done) | exact (KK.out _ _ _ (by first | ((with_reducible refine Blk.drew (Blk.newA' _ _ _ ?_)); (first | rfl | (simp; done))) | ((with_reducible refine Blk.drew ((Blk.newA' _ _ _ ?_).alloc _)); (first | rfl | (simp; done))) | ((with_reducible refine Blk.newA' _ _ _ ?_); (first | rfl | (simp; done))) | ((with_reducible refine (Blk.newA' _ _ _ ?_).alloc _); (first | rfl | (simp; done)))) (by decide)).at_ rfl
           · first | omega | (simp only [size_alloc]; omega) | (simp; omega) | (simp; done)
           · repeat' (first | (with_reducible assumption) | (with_reducible apply World.ownsRow.alloc) | (with_reducible apply World.ownsRow.drew))
           · repeat' (first | (with_reducible assumption) | (with_reducible refine Below.alloc ?_ (by first | omega | (simp only [size_alloc]; omega) | (simp; omega) | (simp; done)) _) | (with_reducible apply Below.drew))
           intro v1 w1 P1 P2 P3 KK
           have Z1 := P3.size
           have BB := KK.out wr.heap.size 97 [Value.int IntKind.i64 (gen k), Value.bool (tk k), Value.pointer (th k)] (by repeat' (first | (with_reducible assumption) | (with_reducible apply Blk.alloc) | (with_reducible apply Blk.drew))) (by decide)
           have Z2 := BB.lt
           have q0 := BB.at_ (i := 0) rfl
           have q1 := BB.at_ (i := 1) rfl)
        | (
           refine step_app1 rfl (.tmp 19) (.tmp 22) 60 rfl w.heap.size 3 (.int .i64 0) 8 Tryd.underlying60 infoI rfl u4 k (gensTo gen k) rfl ?_ _ 1 (.int .i64 (gen k)) rfl ?_ rfl (by omega) hm' ?_ 4 1 v1 (k + 1) (takenTo tk k ++ [.bool (tk k)]) ?_ (by decide) w ?_ ?_
           · repeat' (first | (with_reducible assumption) | (with_reducible apply World.ownsRow.alloc) | (with_reducible apply World.ownsRow.drew))
           · first | (simp; done) | exact (KK.out _ _ _ (by first | ((with_reducible refine Blk.drew (Blk.newA' _ _ _ ?_)); (first | rfl | (simp; done))) | ((with_reducible refine Blk.drew ((Blk.newA' _ _ _ ?_).alloc _)); (first | rfl | (simp; done))) | ((with_reducible refine Blk.newA' _ _ _ ?_); (first | rfl | (simp; done))) | ((with_reducible refine (Blk.newA' _ _ _ ?_).alloc _); (first | rfl | (simp; done)))) (by decide)).at_ rfl
           · first | omega | (simp only [size_alloc]; omega) | (simp; omega) | (simp; done)
           · repeat' (first | (with_reducible assumption) | (with_reducible apply World.ownsRow.alloc) | (with_reducible apply World.ownsRow.drew))
           · repeat' (first | (with_reducible assumption) | (with_reducible refine Below.alloc ?_ (by first | omega | (simp only [size_alloc]; omega) | (simp; omega) | (simp; done)) _) | (with_reducible apply Below.drew))
           intro v1 w1 P1 P2 P3 KK
           have Z1 := P3.size
           have BB := KK.out wr.heap.size 97 [Value.int IntKind.i64 (gen k), Value.bool (tk k), Value.pointer (th k)] (by repeat' (first | (with_reducible assumption) | (with_reducible apply Blk.alloc) | (with_reducible apply Blk.drew))) (by decide)
           have Z2 := BB.lt
           have q0 := BB.at_ (i := 0) rfl
           have q1 := BB.at_ (i := 1) rfl)
        | (
           refine step_app1 rfl (.tmp 24) (.tmp 27) 62 rfl w.heap.size 4 (.bool false) 1 Tryd.underlying62 infoB rfl u5 k (takenTo tk k) rfl ?_ _ 1 (.bool (tk k)) rfl ?_ rfl (by omega) hm' ?_ 3 1 v1 (k + 1) (gensTo gen k ++ [.int .i64 (gen k)]) ?_ (by decide) w ?_ ?_
           · repeat' (first | (with_reducible assumption) | (with_reducible apply World.ownsRow.alloc) | (with_reducible apply World.ownsRow.drew))
           · first | (simp; done) | exact (KK.out _ _ _ (by first | ((with_reducible refine Blk.drew (Blk.newA' _ _ _ ?_)); (first | rfl | (simp; done))) | ((with_reducible refine Blk.drew ((Blk.newA' _ _ _ ?_).alloc _)); (first | rfl | (simp; done))) | ((with_reducible refine Blk.newA' _ _ _ ?_); (first | rfl | (simp; done))) | ((with_reducible refine (Blk.newA' _ _ _ ?_).alloc _); (first | rfl | (simp; done)))) (by decide)).at_ rfl
           · first | omega | (simp only [size_alloc]; omega) | (simp; omega) | (simp; done)
           · repeat' (first | (with_reducible assumption) | (with_reducible apply World.ownsRow.alloc) | (with_reducible apply World.ownsRow.drew))
           · repeat' (first | (with_reducible assumption) | (with_reducible refine Below.alloc ?_ (by first | omega | (simp only [size_alloc]; omega) | (simp; omega) | (simp; done)) _) | (with_reducible apply Below.drew))
           intro v1 w1 P1 P2 P3 KK
           have Z1 := P3.size
           have BB := KK.out wr.heap.size 97 [Value.int IntKind.i64 (gen k), Value.bool (tk k), Value.pointer (th k)] (by repeat' (first | (with_reducible assumption) | (with_reducible apply Blk.alloc) | (with_reducible apply Blk.drew))) (by decide)
           have Z2 := BB.lt
           have q0 := BB.at_ (i := 0) rfl
           have q1 := BB.at_ (i := 1) rfl))
      all_goals
        go_wp2
        go_roundw
        case rel =>
          refine ⟨k + 1, by omega, by go_num, ?_, ?_, P3⟩
          · rw [gensTo_succ]; first | exact P1 | exact P2
          · rw [takenTo_succ]; first | exact P1 | exact P2
        case measure => simp [intOf]; omega
    · have e : k = m := by omega
      subst e
      go_wp2
      go_ret2
      exact ⟨_, _, rfl, HO.out, HP.out, HW.out⟩
end Go.Proofs.YthoaadfkainpkaaDoor
