/- The line of a table of tasks that holds none; small parts of Save. -/
import Derived.Test.YthoaadfkainpkaaDoorSnL
import Derived.Test.YthoaadfkainpkaaDoorSnA
import Derived.Test.YthoaadfkainpkaaDoorSnS
namespace Go.Proofs.YthoaadfkainpkaaDoor
open Go.RowKit
set_option linter.unusedVariables false

theorem Blk.kept {w w' : World} {g b : Nat} {t : TypeId} {l : List Value} (h : Blk w g t l) (hk : Lib.OthersKept 5 (some b) w w') (hg : g ≠ b) (ht : t ≠ 5) : Blk w' g t l := by
  refine hk g _ h (by simpa using hg) ?_
  intro c fz e
  injection e with _ e2 _
  exact ht e2
theorem ints_kept {w w' : World} {base b n : Nat} {v : Value} {l : List Int} (h : w.ownsRow base 3 1 v n (ints l)) (hb : b < base) (hk : Lib.OthersKept 5 (some b) w w') : IntsAt w' 0 v l := by
  refine (IntsAt.of_own (base := base) (e := 3) (n := n) ⟨h.1, ?_⟩).lower (Nat.zero_le _)
  rcases h.2 with hn | ⟨g, cap, cur, hv, h1, h2, r⟩
  · exact .inl hn
  · refine .inr ⟨g, cap, cur, hv, h1, hk g _ h2 (by simp; omega) ?_, r⟩
    intro c fz e
    injection e with _ e2 _
    exact absurd e2 (by decide)

def sSlots : List UInt8 := [115, 108, 111, 116, 115]

set_option maxHeartbeats 4000000 in
set_option maxRecDepth 100000 in
theorem tasksW {B b : Nat} {bs : List UInt8} {vg vt : Value} {gens : List Int} {w : World} (h : Writer B b (Lib.byteCells bs) w) (hBw : B ≤ w.heap.size) (hp : Pow B w)
    (hg : IntsAt w 0 vg gens) (ht : BoolsAt w 0 vt gens.length (fun _ => false)) (h64 : ∀ x ∈ gens, In64 x) (hn : gens.length ≤ 4096) (hlen : bs.length + 5 + 22 * gens.length + 1 ≤ 140737488355328) :
    Calls Tryd.prog 25 #[.pointer (some ⟨b, 0, none⟩), .agg #[vg, vt, .slice none 0 0]] w fun e w' => e = .returned (.tuple #[]) ∧ Wrote B b (bs ++ lineL sSlots gens) w w' := by
  obtain ⟨A, c, rfl⟩ : ∃ A c, vg = .slice A gens.length c := by
    rcases hg with ⟨rfl, A, c, rfl⟩ | ⟨g, c, rfl, _⟩
    · exact ⟨A, c, rfl⟩
    · exact ⟨_, c, rfl⟩
  obtain ⟨gt, ct, rfl, _, hgt, htc⟩ := ht
  have hblt : b < w.heap.size := h.elim (fun x => x.lt) (fun x => x.lt)
  have H := Lib.hid h
  have HP := Lib.hid hp
  have HG := Lib.hid hg
  have HT := Lib.hid htc
  have H64 := Lib.hid h64
  clear h hp hg htc h64
  go_enter Tryd.func25, Tryd.ntmps25
  go_wp2
  go_loopw [4, 5, 6, 15] (fun v x y u wr => ∃ k : Nat, k ≤ gens.length ∧ u = .int .i64 k ∧ wr.ownsRow w.heap.size 3 1 v k (ints (gens.take k)) ∧ Blk wr w.heap.size 65 [.slice A gens.length c, .slice (some ⟨gt, 0, none⟩) gens.length ct, .slice none 0 0] ∧ Below w.heap.size w wr) (fun _ _ _ u _ => gens.length - (intOf u).toNat)
  case atStart => exact ⟨0, by omega, rfl, own_nil _ _ _ _, Blk.newA w #[.slice A gens.length c, .slice (some ⟨gt, 0, none⟩) gens.length ct, .slice none 0 0] _, (Below.refl _ _).alloc (Nat.le_refl _) _⟩
  case round =>
    obtain ⟨k, hk, rfl, hown, hblk, hbel⟩ := hrel
    have hsz : w.heap.size ≤ wr.heap.size := hbel.size
    have hbl := hblk.lt
    have c1 := hblk.at_ (i := 1) rfl
    have c2 := hblk.at_ (i := 2) rfl
    have HO := Lib.hid hown
    have HK := Lib.hid hblk
    have HW := Lib.hid hbel
    by_cases e : k < gens.length
    · obtain ⟨x, hx⟩ : ∃ x, gens[k]? = some x := ⟨_, List.getElem?_eq_getElem e⟩
      obtain ⟨g, hA, c0⟩ : ∃ g, A = some ⟨g, 0, none⟩ ∧ wr.cell? ⟨g, k, none⟩ = some (.int .i64 x) := by
        rcases HG.out.below hbel with ⟨hl, _⟩ | ⟨g, c', hv, _, _, hc⟩
        · simp [hl] at e
        · injection hv with h1 h2 h3
          exact ⟨g, h1, hc k x hx⟩
      have t0 : wr.cell? ⟨gt, k, none⟩ = some (.bool false) := (hbel.cell (p := ⟨gt, k, none⟩) hgt).trans (HT.out k e)
      clear hown hblk hbel
      subst hA
      go_wp2_with (at_builtin
                   refine app1 _ rfl _ _ 60 rfl w.heap.size 3 _ 8 Tryd.underlying60 infoI rfl _ _ _ rfl (HO.out.alloc _) wr.heap.size 1 (.int .i64 x) rfl
                     (cell_new _ _ _ rfl) rfl (by omega) (by omega) (by rw [size_alloc]; omega) ?_
                   intro v' w1 hown1 hg1
                   have HO1 := Lib.hid hown1
                   have HG1 := Lib.hid hg1
                   clear hown1 hg1)
      go_roundw
      case rel =>
        refine ⟨k + 1, by omega, by go_num, own_len HO1.out rfl (by rw [List.take_add_one, hx]; simp [ints]), ?_, ?_⟩
        · exact own_blk (HK.out.alloc _) (HO.out.alloc _) (by decide) HG1.out
        · exact (HW.out.alloc hsz _).grown HG1.out (by rw [size_alloc]; omega) (own_from HO.out)
      case measure => simp [intOf]; omega
    · have hkk : k = gens.length := by omega
      subst hkk
      rw [List.take_length] at hown
      have hlt' : Wrote B b bs w wr := (Wrote.refl H.out).on hbel hBw
      have HL := Lib.hid hlt'
      obtain ⟨A', c', rfl⟩ := own_form hown
      have HO := Lib.hid hown
      clear hown hblk hbel hlt'
      go_wp2_with (go_at_call 22; refine (lineW (word := sSlots) (l := gens) HL.out.writer (by omega) (HP.out.on HL.out.below) (fun W h1 h2 => ints_kept HO.out hblt h2) H64.out (by simpa [sSlots] using hlen)).mono ?_)
      rintro e w2 ⟨rfl, h2⟩
      have d2 : w2.cell? ⟨w.heap.size, 2, none⟩ = some (.slice none 0 0) := (HK.out.kept h2.kept (by omega) (by decide)).at_ (i := 2) rfl
      have H2 := Lib.hid h2
      clear h2
      go_wp2
      go_loop [38] (fun u => u = .int .i64 0) (fun _ => 0)
      case atStart => rfl
      case round =>
        subst hrel
        go_wp2
        go_end0
        exact ⟨rfl, HL.out.trans H2.out⟩
end Go.Proofs.YthoaadfkainpkaaDoor
