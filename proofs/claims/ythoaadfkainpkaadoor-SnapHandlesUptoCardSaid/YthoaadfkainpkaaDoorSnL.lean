/- A line that a writer writes: a word and numbers. -/
import Derived.Test.YthoaadfkainpkaaDoorProg
import Derived.Test.YthoaadfkainpkaaDoorSnR
import Derived.Test.YthoaadfkainpkaaDoorSnB
import Derived.Test.YthoaadfkainpkaaDoorSnX
import Derived.Test.YthoaadfkainpkaaDoorShelf
import Derived.Lib.AppendIntMem
import Derived.Lib.ItoaLen
namespace Go.Proofs.YthoaadfkainpkaaDoor
open Go.RowKit
set_option linter.unusedVariables false

/-- What a writer's numbers add. -/
def numsL (l : List Int) : List UInt8 := l.flatMap fun x => 32 :: Lib.itoa x
/-- A line. -/
def lineL (word : List UInt8) (l : List Int) : List UInt8 := word ++ numsL l ++ [10]
theorem numsL_take (l : List Int) {k : Nat} {x : Int} (h : l[k]? = some x) : numsL (l.take (k + 1)) = numsL (l.take k) ++ (32 :: Lib.itoa x) := by
  unfold numsL
  rw [List.take_add_one, h]
  simp
def In64 (x : Int) : Prop := -9223372036854775808 ≤ x ∧ x ≤ 9223372036854775807
theorem numsL_length {l : List Int} (h : ∀ x ∈ l, In64 x) : (numsL l).length ≤ 22 * l.length := by
  induction l with
  | nil => simp [numsL]
  | cons x l ih =>
    have h1 := Lib.itoa_length_le x (h x (by simp)).1 (h x (by simp)).2
    have h2 := ih (fun y hy => h y (by simp [hy]))
    simp only [numsL, List.flatMap_cons, List.length_append, List.length_cons] at *
    omega

/-- The table that Itoa reads, in all worlds that a writer leaves. -/
abbrev Pow (B : Nat) (w : World) : Prop := Lib.TabBelow Tryd.prog B w "internal/strconv.uint64pow10" .u64 Lib.pow10Tab

theorem Writer.on {B b : Nat} {bs : List Value} {w w' : World} (h : Writer B b bs w) (hb : Below w.heap.size w w') : Writer B b bs w' := by
  have one : ∀ p, Lib.BuilderAtF 74 5 B b p bs w → Lib.BuilderAtF 74 5 B b p bs w' := by
    intro p h
    have hlt := h.lt
    obtain ⟨hB, v, hbk, hown, hne⟩ := h
    refine ⟨hB, v, (hb.block b hlt).trans hbk, ⟨hown.1, ?_⟩, hne⟩
    rcases hown.2 with hn | ⟨g, cap, cur, fz, hv, h1, h2, r⟩
    · exact .inl hn
    · exact .inr ⟨g, cap, cur, fz, hv, h1, (hb.block g (Array.getElem?_eq_some_iff.1 h2).1).trans h2, r⟩
  exact h.elim (fun x => .inl (one _ x)) (fun x => .inr (one _ x))

theorem itoaB {x : Int} {w : World} (h : In64 x) (ht : Lib.TabIs Tryd.prog w "internal/strconv.uint64pow10" .u64 Lib.pow10Tab) :
    Calls Tryd.prog 31 #[.int .i64 x] w fun e w' => e = .returned (.string ⟨(Lib.itoa x).toArray⟩) ∧ Below w.heap.size w w' := by
  refine (Tryd.strconv_Itoa x h.1 h.2 w ht).mono ?_
  rintro e w' ⟨rfl, k, os, hg⟩
  refine ⟨rfl, ?_⟩
  rw [hg]
  exact Lib.below_grow _ _ (Nat.le_refl _) k os

/-- What a writer's call leaves. -/
structure Wrote (B b : Nat) (bs : List UInt8) (w w' : World) : Prop where
  writer : Writer B b (Lib.byteCells bs) w'
  below : Below B w w'
  kept : Lib.OthersKept 5 (some b) w w'
theorem Wrote.refl {B b : Nat} {bs : List UInt8} {w : World} (h : Writer B b (Lib.byteCells bs) w) : Wrote B b bs w w := ⟨h, Below.refl _ _, Lib.OthersKept.refl _ _ _⟩
theorem Wrote.on {B b : Nat} {bs : List UInt8} {w w1 w2 : World} (h : Wrote B b bs w w1) (hb : Below w1.heap.size w1 w2) (hB : B ≤ w1.heap.size) : Wrote B b bs w w2 :=
  ⟨h.writer.on hb, h.below.trans (hb.mono hB), fun k o hk hkb ho => by
    have h1 := h.kept k o hk hkb ho
    rw [hb.block k (Array.getElem?_eq_some_iff.1 h1).1]
    exact h1⟩
theorem Wrote.trans {B b : Nat} {bs bs' : List UInt8} {w w1 w2 : World} (h : Wrote B b bs w w1) (k : Wrote B b bs' w1 w2) : Wrote B b bs' w w2 := ⟨k.writer, h.below.trans k.below, h.kept.trans k.kept⟩

theorem writeL {B b : Nat} {bs : List UInt8} {w : World} (s : List UInt8) (h : Writer B b (Lib.byteCells bs) w) (hlen : bs.length + s.length ≤ 140737488355328) (hBw : B ≤ w.heap.size) :
    Calls Tryd.prog 28 #[.pointer (some ⟨b, 0, none⟩), .string ⟨s.toArray⟩] w fun e w' => e = .returned (.tuple #[.int .i64 s.length, .nilIface]) ∧ Wrote B b (bs ++ s) w w' := by
  have hs : ByteArray.size ⟨s.toArray⟩ = s.length := by simp [ByteArray.size]
  refine (writeStringW B b (Lib.byteCells bs) ⟨s.toArray⟩ w h (by rw [Lib.byteCells_length, hs]; exact hlen) hBw).mono ?_
  rintro e w' ⟨rfl, h1, h2, h3⟩
  refine ⟨by rw [hs], ?_, h2, h3⟩
  rwa [Lib.strCells_toArray, ← Lib.byteCells_append] at h1

set_option maxHeartbeats 4000000 in
theorem lineW {B b : Nat} {bs word : List UInt8} {v : Value} {l : List Int} {w : World} (h : Writer B b (Lib.byteCells bs) w) (hBw : B ≤ w.heap.size) (hp : Pow B w)
    (hread : ∀ W, Below B w W → Lib.OthersKept 5 (some b) w W → IntsAt W 0 v l) (h64 : ∀ x ∈ l, In64 x) (hlen : bs.length + word.length + 22 * l.length + 1 ≤ 140737488355328) :
    Calls Tryd.prog 22 #[.pointer (some ⟨b, 0, none⟩), .string ⟨word.toArray⟩, v] w fun e w' => e = .returned (.tuple #[]) ∧ Wrote B b (bs ++ lineL word l) w w' := by
  obtain ⟨A, c, rfl⟩ : ∃ A c, v = .slice A l.length c := by
    rcases hread w (Below.refl _ _) (Lib.OthersKept.refl _ _ _) with ⟨rfl, A, c, rfl⟩ | ⟨g, c, rfl, _⟩
    · exact ⟨A, c, rfl⟩
    · exact ⟨_, c, rfl⟩
  have H := Lib.hid h
  have HR := Lib.hid hread
  have HP := Lib.hid hp
  have H64 := Lib.hid h64
  clear h hread hp h64
  go_enter Tryd.func22, Tryd.ntmps22
  go_wp2_with (go_at_call 28; refine (writeL word H.out (by omega) hBw).mono ?_)
  rintro e w1 ⟨rfl, hw1⟩
  have H1 := Lib.hid hw1
  clear hw1
  go_wp2
  go_loopw [7, 15] (fun n i wr => ∃ k : Nat, k ≤ l.length ∧ i = .int .i64 k ∧ Wrote B b (bs ++ word ++ numsL (l.take k)) w wr) (fun _ i _ => l.length - (intOf i).toNat)
  case atStart => exact ⟨0, by omega, rfl, by simpa [numsL] using H1.out⟩
  case round =>
    obtain ⟨k, hk, rfl, hw⟩ := hrel
    have hsz : B ≤ wr.heap.size := Nat.le_trans hBw hw.below.size
    have HW := Lib.hid hw
    clear hw
    by_cases e : k < l.length
    · obtain ⟨x, hx⟩ : ∃ x, l[k]? = some x := ⟨_, List.getElem?_eq_getElem e⟩
      obtain ⟨g, hA, c0⟩ : ∃ g, A = some ⟨g, 0, none⟩ ∧ wr.cell? ⟨g, k, none⟩ = some (.int .i64 x) := by
        rcases HR.out wr HW.out.below HW.out.kept with ⟨hl, _⟩ | ⟨g, c', hv, _, _, hc⟩
        · simp [hl] at e
        · injection hv with h1 h2 h3
          exact ⟨g, h1, hc k x hx⟩
      subst hA
      have hx64 : In64 x := H64.out x (List.mem_of_getElem? hx)
      have hil := Lib.itoa_length_le x hx64.1 hx64.2
      have e32 : (⟨#[32]⟩ : ByteArray) ++ ⟨(Lib.itoa x).toArray⟩ = ⟨(32 :: Lib.itoa x).toArray⟩ := bytes_app [32] _
      have hnl : (numsL (l.take k)).length ≤ 22 * k := by
        have := numsL_length (l := l.take k) (fun y hy => H64.out y (List.mem_of_mem_take hy))
        rw [List.length_take] at this
        omega
      have hlenk : (bs ++ word ++ numsL (l.take k)).length + (32 :: Lib.itoa x).length ≤ 140737488355328 := by
        simp only [List.length_append, List.length_cons]
        omega
      go_wp2
      go_region_with (first
        | (go_at_call 31
           refine (itoaB hx64 (HP.out _ HW.out.below.drew)).mono ?_
           rintro e w2 ⟨rfl, hg2⟩
           have hb2 : Below wr.heap.size wr w2 := (Below.refl wr.heap.size wr).drew.trans hg2
           have hs2 : B ≤ w2.heap.size := Nat.le_trans hsz hb2.size
           have HW2 := Lib.hid (HW.out.on hb2 hsz)
           clear hg2 hb2)
        | (go_at_call 28
           refine (writeL (32 :: Lib.itoa x) HW2.out.writer hlenk hs2).mono ?_
           rintro e w3 ⟨rfl, h3⟩
           have HW3 := Lib.hid (HW2.out.trans h3)
           clear h3))
      all_goals go_wp2
      all_goals go_roundw
      all_goals first
        | (simp [intOf]; omega; done)
        | exact ⟨k + 1, by omega, rfl, by
            have := HW3.out
            rwa [List.append_assoc, ← numsL_take l hx] at this⟩
    · have hkk : k = l.length := by omega
      subst hkk
      have H3 : Wrote B b (bs ++ word ++ numsL l) w wr := by simpa using HW.out
      have H3 := Lib.hid H3
      have hnl := numsL_length H64.out
      go_wp2_with (go_at_call 28; refine (writeL [10] H3.out.writer (by simp; omega) hsz).mono ?_)
      rintro e w4 ⟨rfl, h4⟩
      go_wp2
      go_end0
      refine ⟨rfl, ?_⟩
      have := H3.out.trans h4
      simpa [lineL] using this
end Go.Proofs.YthoaadfkainpkaaDoor
