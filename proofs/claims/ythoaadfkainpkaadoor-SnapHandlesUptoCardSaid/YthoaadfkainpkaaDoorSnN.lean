/- slots.New at the two element types: the table that it makes. -/
import Derived.Test.YthoaadfkainpkaaDoorProg
import Derived.Test.YthoaadfkainpkaaDoorSnW
import Derived.WalkSpells
import Derived.WalkLawsBesides
namespace Go.Proofs.YthoaadfkainpkaaDoor
open Go.RowKit

/-- A slot of a table of nodes: gen, taken, thing. -/
def nslot (gen : Int) (taken : Bool) (thing : Option Addr) : List Value := [.int .i64 gen, .bool taken, .pointer thing]
theorem nslot_length (a : Int) (b : Bool) (c : Option Addr) : (nslot a b c).length = 3 := rfl
/-- A slot of a table of tasks, nothing in it. -/
def tslot (gen : Int) : List Value := [.int .i64 gen, .bool false, .int .i64 0, .slice none 0 0, .int .i64 0, .int .i64 0, .int .i64 0, .int .i64 0, .int .i64 0, .int .i64 0]
theorem tslot_length (a : Int) : (tslot a).length = 10 := rfl

theorem infoN : (Tryd.prog.info? 97).map (fun i => (i.zero, i.size, i.bytes)) = some (some (.agg #[.int .i64 0, .bool false, .pointer none]), 3, 24) := by kernel_rfl
theorem infoT : (Tryd.prog.info? 140).map (fun i => (i.zero, i.size, i.bytes)) = some (some (.agg (tslot 0).toArray), 10, 96) := by kernel_rfl

set_option maxHeartbeats 400000 in
theorem newN (kind : Int) (m : Nat) (w : World) (h1 : 1 ≤ kind) (h3 : kind ≤ 3) (hm1 : 1 ≤ m) (hm : m ≤ 4096) :
    Calls Tryd.prog 16 #[.int .i64 kind, .int .i64 m] w fun e w' => ∃ g gl, e = .returned (.tuple #[.pointer (some ⟨g, 0, none⟩), .nilIface]) ∧ w.heap.size ≤ g ∧ w.heap.size ≤ gl ∧
      Blk w' g 95 [.int .i64 kind, .slice (some ⟨gl, 0, none⟩) m m] ∧ Blk w' gl 97 (pieces (fun _ => nslot 1 false none) m) ∧ Below w.heap.size w w' := by
  obtain ⟨i0, hi, hzz⟩ := Option.map_eq_some_iff.1 infoN
  simp only [Prod.mk.injEq] at hzz
  obtain ⟨hz, hs, hb⟩ := hzz
  have hmk : ∀ W : World, (Instr.makeSlice 93 (.int .i64 (m : Int)) (.int .i64 (m : Int))).run Tryd.prog W = .ok (.slice (some ⟨W.heap.size, 0, none⟩) m m) (W.alloc (.cells (pieces (fun _ => nslot 0 false none) m).toArray 97)) := by
    intro W
    have h := run_make (P := Tryd.prog) W 93 97 i0 _ Tryd.underlying93 hi hz .i64 .i64 m m (by omega) (by omega) (by rw [hb]; omega) (by omega)
    rw [hs, Int.toNat_natCast] at h
    have hp := made_pieces (nslot 0 false none) m (by decide)
    rw [h, ← hp]
    rfl
  clear hz hs hb hi
  go_enter Tryd.func16, Tryd.ntmps16
  go_wp2
  have hsl : ∀ (k i : Nat), ((fun j : Nat => nslot (if j < k then 1 else 0) false none) i).length = 3 := fun _ _ => rfl
  go_loopw [33] (fun i wr => ∃ k : Nat, k ≤ m ∧ i = .int .i64 k ∧ Blk wr (w.heap.size + 1) 95 [.int .i64 kind, .slice (some ⟨w.heap.size, 0, none⟩) m m] ∧
      Blk wr w.heap.size 97 (pieces (fun j : Nat => nslot (if j < k then 1 else 0) false none) m) ∧ Below w.heap.size w wr) (fun i _ => m - (intOf i).toNat)
  case atStart =>
    refine ⟨0, by omega, rfl, ?_, ?_, ?_⟩
    · have := Blk.newA (w.alloc (Obj.cells (pieces (fun x => nslot 0 false none) m).toArray 97)) #[Value.int IntKind.i64 kind, Value.slice (some { block := w.heap.size, off := 0 }) m m] 95
      simpa using this
    · exact ((Blk.new w _ 97).alloc _)
    · exact ((Below.refl _ _).alloc (Nat.le_refl _) _).alloc (by simp) _
  case round =>
    obtain ⟨k, hk, rfl, hT, hL, hB⟩ := hrel
    have HT := Lib.hid hT
    have HL := Lib.hid hL
    have HB := Lib.hid hB
    have c1 := hT.at_ (i := 1) rfl
    clear hT hB
    by_cases hlt : k < m
    · have p0 := pieces_at (hsl k) (show 0 < 3 by omega) hlt
      have cg : wr.cell? ⟨w.heap.size, k * 3, none⟩ = some (.int .i64 0) := by
        rw [hL.cell]; simpa [nslot] using p0
      have fg := hL.frozen (k * 3)
      clear p0 hL hsl
      go_wp2
      go_roundw
      case rel =>
        refine ⟨k + 1, by omega, by go_num, HT.out.far (by simp) _, ?_, HB.out.setCell (by simp) _⟩
        have h := HL.out.set_ (k * 3 + 0) (.int .i64 1)
        rw [pieces_set (s := 3) (fun _ => rfl) (by omega) _ hlt] at h
        refine Eq.mp ?_ h
        congr 1
        refine pieces_congr fun j hj => ?_
        by_cases e : j = k
        · subst e; simp [nslot]
        · have e1 : (j < k) = (j < k + 1) := by apply propext; omega
          simp only [e, if_false, e1]
      case measure => simp [intOf]; omega
    · have e : k = m := by omega
      subst e
      clear hL hsl
      go_wp2
      go_ret2
      refine ⟨w.heap.size + 1, w.heap.size, rfl, by omega, by omega, HT.out, ?_, HB.out⟩
      refine Eq.mp ?_ HL.out
      congr 1
      exact pieces_congr fun j hj => by simp [hj]

set_option maxHeartbeats 400000 in
theorem newT (kind : Int) (m : Nat) (w : World) (h1 : 1 ≤ kind) (h3 : kind ≤ 3) (hm1 : 1 ≤ m) (hm : m ≤ 4096) :
    Calls Tryd.prog 36 #[.int .i64 kind, .int .i64 m] w fun e w' => ∃ g gl, e = .returned (.tuple #[.pointer (some ⟨g, 0, none⟩), .nilIface]) ∧ w.heap.size ≤ g ∧ w.heap.size ≤ gl ∧
      Blk w' g 138 [.int .i64 kind, .slice (some ⟨gl, 0, none⟩) m m] ∧ Blk w' gl 140 (pieces (fun _ => tslot 1) m) ∧ Below w.heap.size w w' := by
  obtain ⟨i0, hi, hzz⟩ := Option.map_eq_some_iff.1 infoT
  simp only [Prod.mk.injEq] at hzz
  obtain ⟨hz, hs, hb⟩ := hzz
  have hmk : ∀ W : World, (Instr.makeSlice 136 (.int .i64 (m : Int)) (.int .i64 (m : Int))).run Tryd.prog W = .ok (.slice (some ⟨W.heap.size, 0, none⟩) m m) (W.alloc (.cells (pieces (fun _ => tslot 0) m).toArray 140)) := by
    intro W
    have h := run_make (P := Tryd.prog) W 136 140 i0 _ Tryd.underlying136 hi hz .i64 .i64 m m (by omega) (by omega) (by rw [hb]; omega) (by omega)
    rw [hs, Int.toNat_natCast] at h
    have hp := made_pieces (tslot 0) m (by decide)
    rw [h, ← hp]
    rfl
  clear hz hs hb hi
  go_enter Tryd.func36, Tryd.ntmps36
  go_wp2
  have hsl : ∀ (k i : Nat), ((fun j : Nat => tslot (if j < k then 1 else 0)) i).length = 10 := fun _ _ => rfl
  go_loopw [33] (fun i wr => ∃ k : Nat, k ≤ m ∧ i = .int .i64 k ∧ Blk wr (w.heap.size + 1) 138 [.int .i64 kind, .slice (some ⟨w.heap.size, 0, none⟩) m m] ∧
      Blk wr w.heap.size 140 (pieces (fun j : Nat => tslot (if j < k then 1 else 0)) m) ∧ Below w.heap.size w wr) (fun i _ => m - (intOf i).toNat)
  case atStart =>
    refine ⟨0, by omega, rfl, ?_, ?_, ?_⟩
    · have := Blk.newA (w.alloc (Obj.cells (pieces (fun x => tslot 0) m).toArray 140)) #[Value.int IntKind.i64 kind, Value.slice (some { block := w.heap.size, off := 0 }) m m] 138
      simpa using this
    · exact ((Blk.new w _ 140).alloc _)
    · exact ((Below.refl _ _).alloc (Nat.le_refl _) _).alloc (by simp) _
  case round =>
    obtain ⟨k, hk, rfl, hT, hL, hB⟩ := hrel
    have HT := Lib.hid hT
    have HL := Lib.hid hL
    have HB := Lib.hid hB
    have c1 := hT.at_ (i := 1) rfl
    clear hT hB
    by_cases hlt : k < m
    · have p0 := pieces_at (hsl k) (show 0 < 10 by omega) hlt
      have cg : wr.cell? ⟨w.heap.size, k * 10, none⟩ = some (.int .i64 0) := by
        rw [hL.cell]; simpa [tslot] using p0
      have fg := hL.frozen (k * 10)
      clear p0 hL hsl
      go_wp2
      go_roundw
      case rel =>
        refine ⟨k + 1, by omega, by go_num, HT.out.far (by simp) _, ?_, HB.out.setCell (by simp) _⟩
        have h := HL.out.set_ (k * 10 + 0) (.int .i64 1)
        rw [pieces_set (s := 10) (fun _ => rfl) (by omega) _ hlt] at h
        refine Eq.mp ?_ h
        congr 1
        refine pieces_congr fun j hj => ?_
        by_cases e : j = k
        · subst e; simp [tslot]
        · have e1 : (j < k) = (j < k + 1) := by apply propext; omega
          simp only [e, if_false, e1]
      case measure => simp [intOf]; omega
    · have e : k = m := by omega
      subst e
      clear hL hsl
      go_wp2
      go_ret2
      refine ⟨w.heap.size + 1, w.heap.size, rfl, by omega, by omega, HT.out, ?_, HB.out⟩
      refine Eq.mp ?_ HL.out
      congr 1
      exact pieces_congr fun j hj => by simp [hj]

end Go.Proofs.YthoaadfkainpkaaDoor
