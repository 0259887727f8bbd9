/- Save of a new kernel. -/
import Derived.Test.YthoaadfkainpkaaDoorSnV
import Derived.Test.YthoaadfkainpkaaDoorSnR
namespace Go.Proofs.YthoaadfkainpkaaDoor
open Go.RowKit
set_option linter.unusedVariables false

def sTithe : List UInt8 := [116, 105, 116, 104, 101]
def sNow : List UInt8 := [110, 111, 119]
def sGens : List UInt8 := [103, 101, 110, 115]
def sNode : List UInt8 := [110, 111, 100, 101]
def sSlack : List UInt8 := [115, 108, 97, 99, 107]
def ones (n : Nat) : List Int := (List.range n).map fun _ => 1
def rootRow : List Int := rootH :: List.replicate 22 0
/-- The text of a new kernel, ahead of its last line. -/
def ahead0 : List UInt8 := ((((lineL sTithe [1] ++ lineL sNow [0, 0]) ++ lineL sGens (ones 64)) ++ lineL sNode rootRow) ++ lineL sSlack [-1]) ++ lineL sSlots (ones 16)
/-- The text of a new kernel. -/
def text0 : List UInt8 := ahead0 ++ ([115, 117, 109, 32] ++ hexL (sumI ahead0).toNat ++ [10])

variable {w : World} {k gT gL gN gF gB gM gP gQ gR : Nat}

theorem writer_new (w : World) : Writer w.heap.size w.heap.size [] (w.alloc (.cells #[.pointer none, .slice none 0 0] 74)) := by
  refine .inl ⟨Nat.le_refl _, .slice none 0 0, heap_alloc_new w _, ⟨rfl, .inl ⟨rfl, rfl⟩⟩, ?_⟩
  simp [Value.ownBlock]

instance (x : Int) : Decidable (In64 x) := by unfold In64; infer_instance
theorem lineL_length {word : List UInt8} {l : List Int} (h : ∀ x ∈ l, In64 x) : (lineL word l).length ≤ word.length + 22 * l.length + 1 := by
  have := numsL_length h
  simp only [lineL, List.length_append, List.length_singleton]
  omega
theorem Wrote.size {B b : Nat} {bs : List UInt8} {w w' : World} (h : Wrote B b bs w w') : w.heap.size ≤ w'.heap.size := h.below.size
theorem Wrote.lt {B b : Nat} {bs : List UInt8} {w w' : World} (h : Wrote B b bs w w') : b < w'.heap.size := h.writer.elim (fun x => x.lt) (fun x => x.lt)
/-- A line of numbers that a literal has made. -/
theorem lineLit {B b n g : Nat} {bs word : List UInt8} {l : List Int} {w0 wr : World} (h : Wrote B b bs w0 wr) (hB : B ≤ w0.heap.size) (hp : Pow B w0) (hg : g = wr.heap.size) (hn : n = l.length) (h64 : ∀ x ∈ l, In64 x)
    (hlen : bs.length + word.length + 22 * l.length + 1 ≤ 140737488355328) :
    Calls Tryd.prog 22 #[.pointer (some ⟨b, 0, none⟩), .string ⟨word.toArray⟩, .slice (some ⟨g, 0, none⟩) n n] (wr.alloc (.cells (ints l).toArray 3)) fun e w' => e = .returned (.tuple #[]) ∧ Wrote B b (bs ++ lineL word l) w0 w' := by
  subst hg hn
  have h1 := h.on ((Below.refl wr.heap.size wr).alloc (Nat.le_refl _) (.cells (ints l).toArray 3)) (Nat.le_trans hB h.size)
  have hlt := h.lt
  refine (lineW (word := word) (l := l) h1.writer (by have := h1.size; omega) (hp.on h1.below) (fun W _ hk => blk_read (Blk.new wr (ints l) 3) (by omega) hk) h64 hlen).mono ?_
  rintro e w' ⟨rfl, h2⟩
  exact ⟨rfl, h1.trans h2⟩
/-- A line of numbers that have been there before the writer. -/
theorem lineOld {B b : Nat} {bs word : List UInt8} {l : List Int} {v : Value} {w0 wr : World} (h : Wrote B b bs w0 wr) (hB : B ≤ w0.heap.size) (hp : Pow B w0) (hv : ∀ W, Below B w0 W → IntsAt W 0 v l) (h64 : ∀ x ∈ l, In64 x)
    (hlen : bs.length + word.length + 22 * l.length + 1 ≤ 140737488355328) :
    Calls Tryd.prog 22 #[.pointer (some ⟨b, 0, none⟩), .string ⟨word.toArray⟩, v] wr fun e w' => e = .returned (.tuple #[]) ∧ Wrote B b (bs ++ lineL word l) w0 w' := by
  refine (lineW (word := word) (l := l) h.writer (by have := h.size; omega) (hp.on h.below) (fun W hb _ => hv W (h.below.trans hb)) h64 hlen).mono ?_
  rintro e w' ⟨rfl, h2⟩
  exact ⟨rfl, h.trans h2⟩
/-- A line of numbers that the call has put together. -/
theorem lineOwn {B b n base : Nat} {bs word : List UInt8} {l : List Int} {v : Value} {w0 wr : World} (h : Wrote B b bs w0 wr) (hB : B ≤ w0.heap.size) (hp : Pow B w0) (hr : wr.ownsRow base 3 1 v n (ints l)) (hb : b < base) (h64 : ∀ x ∈ l, In64 x)
    (hlen : bs.length + word.length + 22 * l.length + 1 ≤ 140737488355328) :
    Calls Tryd.prog 22 #[.pointer (some ⟨b, 0, none⟩), .string ⟨word.toArray⟩, v] wr fun e w' => e = .returned (.tuple #[]) ∧ Wrote B b (bs ++ lineL word l) w0 w' := by
  refine (lineW (word := word) (l := l) h.writer (by have := h.size; omega) (hp.on h.below) (fun W _ hk => ints_kept hr hb hk) h64 hlen).mono ?_
  rintro e w' ⟨rfl, h2⟩
  exact ⟨rfl, h.trans h2⟩
theorem ones64 (n : Nat) : ∀ x ∈ ones n, In64 x := by
  intro x hx
  simp [ones] at hx
  rw [← hx.2]
  decide
theorem ones_length (n : Nat) : (ones n).length = n := by simp [ones]

theorem nodeCells {W : World} {g : Nat} {t : TypeId} (h : Blk W g t [.int .i64 rootH, .int .i64 0, .int .i64 0, .int .i64 0, .int .i64 0, .int .i64 0, .bool false, .int .i64 0, .int .i64 0, .int .i64 0, .int .i64 0, .int .i64 0, .int .i64 0, .int .i64 0, .int .i64 0, .int .i64 0, .int .i64 0, .int .i64 0, .int .i64 0, .int .i64 0, .int .i64 0, .int .i64 0, .int .i64 0, .slice none 0 0, .slice none 0 0, .slice none 0 0]) : W.cell? ⟨g, 11, none⟩ = some (.int .i64 0) ∧ W.cell? ⟨g, 12, none⟩ = some (.int .i64 0) ∧ W.cell? ⟨g, 13, none⟩ = some (.int .i64 0) ∧ W.cell? ⟨g, 14, none⟩ = some (.int .i64 0) ∧ W.cell? ⟨g, 15, none⟩ = some (.int .i64 0) ∧ W.cell? ⟨g, 16, none⟩ = some (.int .i64 0) ∧ W.cell? ⟨g, 17, none⟩ = some (.int .i64 0) ∧ W.cell? ⟨g, 18, none⟩ = some (.int .i64 0) ∧ W.cell? ⟨g, 19, none⟩ = some (.int .i64 0) ∧ W.cell? ⟨g, 20, none⟩ = some (.int .i64 0) ∧ W.cell? ⟨g, 21, none⟩ = some (.int .i64 0) ∧ W.cell? ⟨g, 22, none⟩ = some (.int .i64 0) :=
  ⟨h.at_ (i := 11) rfl, h.at_ (i := 12) rfl, h.at_ (i := 13) rfl, h.at_ (i := 14) rfl, h.at_ (i := 15) rfl, h.at_ (i := 16) rfl, h.at_ (i := 17) rfl, h.at_ (i := 18) rfl, h.at_ (i := 19) rfl, h.at_ (i := 20) rfl, h.at_ (i := 21) rfl, h.at_ (i := 22) rfl⟩

set_option maxHeartbeats 4000000 in
set_option maxRecDepth 100000 in
theorem save0 (h : KAt w k gT gL gN gF gB gM gP gQ gR) (hp : Lib.TabIs Tryd.prog w "internal/strconv.uint64pow10" .u64 Lib.pow10Tab) (hd : Lib.TabIs Tryd.prog w "math/bits.deBruijn64tab" .u8 bruijn) :
    Calls Tryd.prog 11 #[.pointer (some ⟨k, 0, none⟩)] w fun e w' => e = .returned (.string ⟨text0.toArray⟩) ∧ Below w.heap.size w w' := by
  have HP := Lib.hid (Lib.tabBelow_of_tabIs hp)
  have HD := Lib.hid (Lib.tabBelow_of_tabIs hd)
  have HK := Lib.hid h
  clear h hp hd
  go_enter Tryd.func11, Tryd.ntmps11
  go_wp2_with (go_at_call 21; refine (state0 HK.out).mono ?_)
  rintro e w1 ⟨vg, gn, cn, vsg, vst, rfl, a1, a2, a3, a4, a5, a6⟩
  obtain ⟨Ag, cg, rfl⟩ : ∃ A c, vg = .slice A 64 c := by
    rcases a1 with ⟨hl, _⟩ | ⟨g, c, hv, _⟩
    · simp at hl
    · exact ⟨_, c, by simpa using hv⟩
  obtain ⟨As, cs, rfl⟩ : ∃ A c, vsg = .slice A 16 c := by
    rcases a4 with ⟨hl, _⟩ | ⟨g, c, hv, _⟩
    · simp at hl
    · exact ⟨_, c, by simpa using hv⟩
  obtain ⟨At, ct, rfl⟩ : ∃ A c, vst = .slice A 16 c := by
    obtain ⟨g, c, hv, _⟩ := a5
    exact ⟨_, c, hv⟩
  have HA1 := Lib.hid a1
  have HA3 := Lib.hid a3
  have HA4 := Lib.hid a4
  have HA5 := Lib.hid a5
  have HA6 := Lib.hid a6
  clear a1 a3 a4 a5 a6
  have hb1 := HA6.out.size
  go_wp2_with fail
  have BS := Blk.newA w1 #[.int .i64 0, .int .i64 0, .slice Ag 64 cg, .slice (some ⟨gn, 0, none⟩) 1 cn, .slice As 16 cs, .slice At 16 ct, .slice none 0 0, .int .i64 (-1)] 67
  have D2 : Below w1.heap.size w1 (w1.alloc (.cells #[.int .i64 0, .int .i64 0, .slice Ag 64 cg, .slice (some ⟨gn, 0, none⟩) 1 cn, .slice As 16 cs, .slice At 16 ct, .slice none 0 0, .int .i64 (-1)] 67)) := (Below.refl _ _).alloc (Nat.le_refl _) _
  have z2 := size_alloc w1 (.cells #[.int .i64 0, .int .i64 0, .slice Ag 64 cg, .slice (some ⟨gn, 0, none⟩) 1 cn, .slice As 16 cs, .slice At 16 ct, .slice none 0 0, .int .i64 (-1)] 67)
  generalize w1.alloc (.cells #[.int .i64 0, .int .i64 0, .slice Ag 64 cg, .slice (some ⟨gn, 0, none⟩) 1 cn, .slice As 16 cs, .slice At 16 ct, .slice none 0 0, .int .i64 (-1)] 67) = w2 at *
  have W0 : Writer (w1.heap.size + 1) (w1.heap.size + 1) (Lib.byteCells []) (w2.alloc (.cells #[.pointer none, .slice none 0 0] 74)) := by
    have := writer_new w2
    rwa [z2] at this
  have D3 := Lib.hid (D2.alloc (by omega) (.cells #[.pointer none, .slice none 0 0] 74))
  have BS3 := Lib.hid (BS.alloc (.cells #[.pointer none, .slice none 0 0] 74))
  have z3 := size_alloc w2 (.cells #[.pointer none, .slice none 0 0] 74)
  rw [z2] at z3
  generalize w2.alloc (.cells #[.pointer none, .slice none 0 0] 74) = w3 at *
  have hp3 : Pow (w1.heap.size + 1) w3 := fun W hb => HP.out W ((HA6.out.trans (D3.out.mono hb1)).trans (hb.mono (by omega)))
  have H3 := Lib.hid (Wrote.refl W0)
  have HP3 := Lib.hid hp3
  have hB3 : w1.heap.size + 1 ≤ w3.heap.size := by omega
  clear BS D2 W0 hp3 z2
  refine (lineLit (word := sTithe) (l := [1]) H3.out hB3 HP3.out (by omega) rfl (by decide) (by decide)).mono ?_
  rintro e w4 ⟨rfl, h4⟩
  have H4 := Lib.hid h4
  clear h4
  have L1 : (lineL sTithe [1]).length ≤ 28 := lineL_length (by decide)
  have L2 : (lineL sNow [0, 0]).length ≤ 48 := lineL_length (by decide)
  have L3 : (lineL sGens (ones 64)).length ≤ 1413 := by have := lineL_length (word := sGens) (ones64 64); rw [ones_length] at this; exact this
  have L4 : (lineL sNode rootRow).length ≤ 511 := lineL_length (by decide)
  have L5 : (lineL sSlack [-1]).length ≤ 28 := lineL_length (by decide)
  have L6 : (lineL sSlots (ones 16)).length ≤ 358 := by have := lineL_length (word := sSlots) (ones64 16); rw [ones_length] at this; exact this
  rw [List.nil_append] at H4
  have BS4 := Lib.hid (BS3.out.below H4.out.below (Nat.lt_succ_self _))
  have s0 := BS4.out.at_ (i := 0) rfl
  have s1 := BS4.out.at_ (i := 1) rfl
  go_wp2_with fail
  refine (lineLit (word := sNow) (l := [0, 0]) H4.out hB3 HP3.out rfl rfl (by decide) (by simp [sNow]; omega)).mono ?_
  rintro e w5 ⟨rfl, h5⟩
  have H5 := Lib.hid h5
  have BS5 := Lib.hid (BS3.out.below h5.below (Nat.lt_succ_self _))
  clear h5 s0 s1 BS4
  have s2 := BS5.out.at_ (i := 2) rfl
  go_wp2_with fail
  refine (lineOld (word := sGens) (l := ones 64) H5.out hB3 HP3.out (fun W hb => ((HA1.out.below (D3.out.trans (hb.mono (Nat.le_succ _)))).lower (Nat.zero_le _))) (ones64 64) (by simp [sGens, ones_length]; omega)).mono ?_
  rintro e w6 ⟨rfl, h6⟩
  have H6 := Lib.hid h6
  have BS6 := Lib.hid (BS3.out.below h6.below (Nat.lt_succ_self _))
  clear h6 s2 BS5
  have s3 := BS6.out.at_ (i := 3) rfl
  go_wp2
  go_loopw [31] (fun u wr => ∃ i : Nat, i ≤ 1 ∧ u = .int .i64 i ∧ (i = 0 → Wrote (w1.heap.size + 1) (w1.heap.size + 1) (lineL sTithe [1] ++ lineL sNow [0, 0] ++ lineL sGens (ones 64)) w3 wr) ∧ (i = 1 → Wrote (w1.heap.size + 1) (w1.heap.size + 1) (lineL sTithe [1] ++ lineL sNow [0, 0] ++ lineL sGens (ones 64) ++ lineL sNode rootRow) w3 wr)) (fun u _ => 1 - (intOf u).toNat)
  case atStart => exact ⟨0, by omega, rfl, fun _ => H6.out, fun h => absurd h (by omega)⟩
  case round =>
    obtain ⟨i, hi, rfl, r0, r1⟩ := hrel
    by_cases e : i = 0
    · subst e
      have H7 := Lib.hid (r0 rfl)
      clear r0 r1 s3 H6 BS6
      have hr : wr.rangeAt gn 0 [.int .i64 rootH, .int .i64 0, .int .i64 0, .int .i64 0, .int .i64 0, .int .i64 0, .bool false, .int .i64 0, .int .i64 0, .int .i64 0, .int .i64 0, .int .i64 0, .int .i64 0, .int .i64 0, .int .i64 0, .int .i64 0, .int .i64 0, .int .i64 0, .int .i64 0, .int .i64 0, .int .i64 0, .int .i64 0, .int .i64 0, .slice none 0 0, .slice none 0 0, .slice none 0 0] := by
        intro j v hj
        rw [Nat.zero_add, ((D3.out.trans (H7.out.below.mono (Nat.le_succ _))).cell (p := ⟨gn, j, none⟩) a2)]
        exact HA3.out j v hj
      have HR := Lib.hid hr
      clear hr
      go_wp2_with (first
        | (refine wpList_load_mid rfl 79 (.tmp 34) rfl gn 0 rfl [.int .i64 rootH, .int .i64 0, .int .i64 0, .int .i64 0, .int .i64 0, .int .i64 0, .bool false, .int .i64 0, .int .i64 0, .int .i64 0, .int .i64 0, .int .i64 0, .int .i64 0, .int .i64 0, .int .i64 0, .int .i64 0, .int .i64 0, .int .i64 0, .int .i64 0, .int .i64 0, .int .i64 0, .int .i64 0, .int .i64 0, .slice none 0 0, .slice none 0 0, .slice none 0 0] _ HR.out Tryd.underlying79 rfl (by kernel_rfl) ?_)
        | (refine wpList_store_new rfl 79 (.tmp 6) (.tmp 35) rfl wr.heap.size #[.int .i64 rootH, .int .i64 0, .int .i64 0, .int .i64 0, .int .i64 0, .int .i64 0, .bool false, .int .i64 0, .int .i64 0, .int .i64 0, .int .i64 0, .int .i64 0, .int .i64 0, .int .i64 0, .int .i64 0, .int .i64 0, .int .i64 0, .int .i64 0, .int .i64 0, .int .i64 0, .int .i64 0, .int .i64 0, .int .i64 0, .slice none 0 0, .slice none 0 0, .slice none 0 0] rfl rfl rfl 79 #[.int .i64 0, .int .i64 0, .int .i64 0, .int .i64 0, .int .i64 0, .int .i64 0, .bool false, .int .i64 0, .int .i64 0, .int .i64 0, .int .i64 0, .int .i64 0, .int .i64 0, .int .i64 0, .int .i64 0, .int .i64 0, .int .i64 0, .int .i64 0, .int .i64 0, .int .i64 0, .int .i64 0, .int .i64 0, .int .i64 0, .slice none 0 0, .slice none 0 0, .slice none 0 0] (by kernel_rfl) rfl (by simp [Value.oneCell']) ?_))
      have BN := (Blk.newA wr #[.int .i64 rootH, .int .i64 0, .int .i64 0, .int .i64 0, .int .i64 0, .int .i64 0, .bool false, .int .i64 0, .int .i64 0, .int .i64 0, .int .i64 0, .int .i64 0, .int .i64 0, .int .i64 0, .int .i64 0, .int .i64 0, .int .i64 0, .int .i64 0, .int .i64 0, .int .i64 0, .int .i64 0, .int .i64 0, .int .i64 0, .slice none 0 0, .slice none 0 0, .slice none 0 0] 79).alloc (.cells #[.int .i64 0, .int .i64 0, .int .i64 0, .int .i64 0, .bool false, .int .i64 0, .int .i64 0, .int .i64 0] 51)
      have BB := Blk.newA' (wr.alloc (.cells #[.int .i64 rootH, .int .i64 0, .int .i64 0, .int .i64 0, .int .i64 0, .int .i64 0, .bool false, .int .i64 0, .int .i64 0, .int .i64 0, .int .i64 0, .int .i64 0, .int .i64 0, .int .i64 0, .int .i64 0, .int .i64 0, .int .i64 0, .int .i64 0, .int .i64 0, .int .i64 0, .int .i64 0, .int .i64 0, .int .i64 0, .slice none 0 0, .slice none 0 0, .slice none 0 0] 79)) #[.int .i64 0, .int .i64 0, .int .i64 0, .int .i64 0, .bool false, .int .i64 0, .int .i64 0, .int .i64 0] 51 (g := wr.heap.size + 1) (by rw [size_alloc])
      have D8 : Below wr.heap.size wr ((wr.alloc (.cells #[.int .i64 rootH, .int .i64 0, .int .i64 0, .int .i64 0, .int .i64 0, .int .i64 0, .bool false, .int .i64 0, .int .i64 0, .int .i64 0, .int .i64 0, .int .i64 0, .int .i64 0, .int .i64 0, .int .i64 0, .int .i64 0, .int .i64 0, .int .i64 0, .int .i64 0, .int .i64 0, .int .i64 0, .int .i64 0, .int .i64 0, .slice none 0 0, .slice none 0 0, .slice none 0 0] 79)).alloc (.cells #[.int .i64 0, .int .i64 0, .int .i64 0, .int .i64 0, .bool false, .int .i64 0, .int .i64 0, .int .i64 0] 51)) := ((Below.refl wr.heap.size wr).alloc (Nat.le_refl _) _).alloc (by rw [size_alloc]; omega) _
      have H8 := Lib.hid (H7.out.on D8 (Nat.le_trans hB3 H7.out.size))
      have z8 : ((wr.alloc (.cells #[.int .i64 rootH, .int .i64 0, .int .i64 0, .int .i64 0, .int .i64 0, .int .i64 0, .bool false, .int .i64 0, .int .i64 0, .int .i64 0, .int .i64 0, .int .i64 0, .int .i64 0, .int .i64 0, .int .i64 0, .int .i64 0, .int .i64 0, .int .i64 0, .int .i64 0, .int .i64 0, .int .i64 0, .int .i64 0, .int .i64 0, .slice none 0 0, .slice none 0 0, .slice none 0 0] 79)).alloc (.cells #[.int .i64 0, .int .i64 0, .int .i64 0, .int .i64 0, .bool false, .int .i64 0, .int .i64 0, .int .i64 0] 51)).heap.size = wr.heap.size + 2 := by rw [size_alloc, size_alloc]
      generalize (wr.alloc (.cells #[.int .i64 rootH, .int .i64 0, .int .i64 0, .int .i64 0, .int .i64 0, .int .i64 0, .bool false, .int .i64 0, .int .i64 0, .int .i64 0, .int .i64 0, .int .i64 0, .int .i64 0, .int .i64 0, .int .i64 0, .int .i64 0, .int .i64 0, .int .i64 0, .int .i64 0, .int .i64 0, .int .i64 0, .int .i64 0, .int .i64 0, .slice none 0 0, .slice none 0 0, .slice none 0 0] 79)).alloc (.cells #[.int .i64 0, .int .i64 0, .int .i64 0, .int .i64 0, .bool false, .int .i64 0, .int .i64 0, .int .i64 0] 51) = w8 at *
      have n0 := BN.at_ (i := 0) rfl
      have n1 := BN.at_ (i := 1) rfl
      have n10 := BN.at_ (i := 10) rfl
      have b0 := BB.at_ (i := 0) rfl
      have b1 := BB.at_ (i := 1) rfl
      have b2 := BB.at_ (i := 2) rfl
      have b3 := BB.at_ (i := 3) rfl
      have b4 := BB.at_ (i := 4) rfl
      have b5 := BB.at_ (i := 5) rfl
      have b6 := BB.at_ (i := 6) rfl
      have b7 := BB.at_ (i := 7) rfl
      have hq1 := BN.lt
      have hq2 := BB.lt
      have HN := Lib.hid BN
      clear BN BB D8 HR H7
      generalize hN : wr.heap.size = gNS at *
      go_region_held3 (fun W => W.cell? ⟨gNS, 0, none⟩ = some (.int .i64 rootH) ∧ W.cell? ⟨gNS, 1, none⟩ = some (.int .i64 0) ∧ W.cell? ⟨gNS, 10, none⟩ = some (.int .i64 0) ∧ W.cell? ⟨gNS + 1, 0, none⟩ = some (.int .i64 0) ∧ W.cell? ⟨gNS + 1, 1, none⟩ = some (.int .i64 0) ∧ W.cell? ⟨gNS + 1, 2, none⟩ = some (.int .i64 0) ∧ W.cell? ⟨gNS + 1, 3, none⟩ = some (.int .i64 0) ∧ W.cell? ⟨gNS + 1, 4, none⟩ = some (.bool false) ∧ W.cell? ⟨gNS + 1, 5, none⟩ = some (.int .i64 0) ∧ W.cell? ⟨gNS + 1, 6, none⟩ = some (.int .i64 0) ∧ W.cell? ⟨gNS + 1, 7, none⟩ = some (.int .i64 0)) (go_keep) (first | (go_at_call 23; refine (flag0 _).mono ?_; rintro e w' ⟨rfl, rfl⟩))
      clear n0 n1 n10 b0 b1 b2 b3 b4 b5 b6 b7
      have R9 : ((w8.alloc (.cells #[.int .i64 rootH, .int .i64 0, .int .i64 0, .int .i64 0, .int .i64 0, .int .i64 0, .int .i64 0, .int .i64 0, .int .i64 0, .int .i64 0, .int .i64 0] 3)).drew).ownsRow (gNS + 2) 3 1 (.slice (some ⟨gNS + 2, 0, none⟩) 11 11) 11 (ints (rootH :: List.replicate 10 0)) := own_lit (Blk.newA' w8 #[.int .i64 rootH, .int .i64 0, .int .i64 0, .int .i64 0, .int .i64 0, .int .i64 0, .int .i64 0, .int .i64 0, .int .i64 0, .int .i64 0, .int .i64 0] 3 (by omega)) (Nat.le_refl _) rfl (by decide)
      have BNx : Blk ((w8.alloc (.cells #[.int .i64 rootH, .int .i64 0, .int .i64 0, .int .i64 0, .int .i64 0, .int .i64 0, .int .i64 0, .int .i64 0, .int .i64 0, .int .i64 0, .int .i64 0] 3)).drew) gNS 79 [.int .i64 rootH, .int .i64 0, .int .i64 0, .int .i64 0, .int .i64 0, .int .i64 0, .bool false, .int .i64 0, .int .i64 0, .int .i64 0, .int .i64 0, .int .i64 0, .int .i64 0, .int .i64 0, .int .i64 0, .int .i64 0, .int .i64 0, .int .i64 0, .int .i64 0, .int .i64 0, .int .i64 0, .int .i64 0, .int .i64 0, .slice none 0 0, .slice none 0 0, .slice none 0 0] := HN.out.alloc _
      have D9 : Below (gNS + 2) w8 ((w8.alloc (.cells #[.int .i64 rootH, .int .i64 0, .int .i64 0, .int .i64 0, .int .i64 0, .int .i64 0, .int .i64 0, .int .i64 0, .int .i64 0, .int .i64 0, .int .i64 0] 3)).drew) := (((Below.refl _ _).alloc (by omega) _)).drew
      have z9 : ((w8.alloc (.cells #[.int .i64 rootH, .int .i64 0, .int .i64 0, .int .i64 0, .int .i64 0, .int .i64 0, .int .i64 0, .int .i64 0, .int .i64 0, .int .i64 0, .int .i64 0] 3)).drew).heap.size = gNS + 3 := by rw [size_drew, size_alloc]; omega
      have H8' := Lib.hid (H8.out.on (w2 := (w8.alloc (.cells #[.int .i64 rootH, .int .i64 0, .int .i64 0, .int .i64 0, .int .i64 0, .int .i64 0, .int .i64 0, .int .i64 0, .int .i64 0, .int .i64 0, .int .i64 0] 3)).drew) ((Below.refl _ _).alloc (Nat.le_refl _) _).drew (Nat.le_trans hB3 H8.out.size))
      generalize (w8.alloc (.cells #[.int .i64 rootH, .int .i64 0, .int .i64 0, .int .i64 0, .int .i64 0, .int .i64 0, .int .i64 0, .int .i64 0, .int .i64 0, .int .i64 0, .int .i64 0] 3)).drew = w9 at *
      have hbX : gNS + 2 ≤ w9.heap.size := by omega
      have dX := Below.refl (gNS + 2) w9
      have HD9 := Lib.hid D9
      clear D9 HN H8'
      go_wp2
      go_region_held3 (fun W => W.cell? ⟨gNS, 11, none⟩ = some (.int .i64 0) ∧ W.cell? ⟨gNS, 12, none⟩ = some (.int .i64 0) ∧ W.cell? ⟨gNS, 13, none⟩ = some (.int .i64 0) ∧ W.cell? ⟨gNS, 14, none⟩ = some (.int .i64 0) ∧ W.cell? ⟨gNS, 15, none⟩ = some (.int .i64 0) ∧ W.cell? ⟨gNS, 16, none⟩ = some (.int .i64 0) ∧ W.cell? ⟨gNS, 17, none⟩ = some (.int .i64 0) ∧ W.cell? ⟨gNS, 18, none⟩ = some (.int .i64 0) ∧ W.cell? ⟨gNS, 19, none⟩ = some (.int .i64 0) ∧ W.cell? ⟨gNS, 20, none⟩ = some (.int .i64 0) ∧ W.cell? ⟨gNS, 21, none⟩ = some (.int .i64 0) ∧ W.cell? ⟨gNS, 22, none⟩ = some (.int .i64 0)) (exact nodeCells BNx) (first
        | (go_at_call 24; refine (accountZ _).mono ?_; rintro e wa ⟨ga, rfl, ba, da⟩
           have BNx := Blk.below (w' := wa) (by exact BNx) da BNx.lt
           have R9 := own_on (w' := wa) (by exact R9) da
           have dX := Below.trans (c := wa) (by first | exact dX | exact dX.drew) (da.mono hbX)
           have hbX := Nat.le_trans hbX da.size)
        | (refine step_more rfl _ _ rfl (gNS + 2) _ _ _ (by rfl) R9 _ _ _ _ (by rfl) ba rfl (ints_one _) (by decide) (by decide) hbX ?_
           intro v1 w1' R9 d1
           have BNx := BNx.below d1 (by omega)
           have dX := dX.trans d1
           have hbX := Nat.le_trans hbX d1.size))
      have HR9 : w1'.ownsRow (gNS + 2) 3 1 v1 (11 + (ints (List.replicate 6 0)).length + (ints (List.replicate 6 0)).length) (ints rootRow) := R9
      have H11 := Lib.hid (H8.out.on (w2 := w1') (by rw [z8]; exact HD9.out.trans dX) (Nat.le_trans hB3 H8.out.size))
      have hbg : w1.heap.size + 1 < gNS + 2 := by
        have := H8.out.lt
        omega
      go_wp2_with fail
      refine (lineOwn (word := sNode) (l := rootRow) H11.out hB3 HP3.out HR9 hbg (by decide) (by simp [sNode, rootRow]; omega)).mono ?_
      rintro e w12 ⟨rfl, h12⟩
      have H12 := Lib.hid h12
      clear h12
      go_wp2
      go_roundw
      case rel => exact ⟨1, by omega, rfl, fun h => absurd h (by omega), fun _ => H12.out⟩
      case measure => simp [intOf]
    · have hi1 : i = 1 := by omega
      subst hi1
      have H13 := Lib.hid (r1 rfl)
      clear r0 r1 H6 BS6 s3
      have BS13 := BS3.out.below H13.out.below (Nat.lt_succ_self _)
      have s7 := BS13.at_ (i := 7) rfl
      clear BS13
      go_wp2_with fail
      refine (lineLit (word := sSlack) (l := [-1]) H13.out hB3 HP3.out rfl rfl (by decide) (by simp [sSlack]; omega)).mono ?_
      rintro e w14 ⟨rfl, h14⟩
      have H14 := Lib.hid h14
      clear h14 s7
      have BS14 := BS3.out.below H14.out.below (Nat.lt_succ_self _)
      have s4 := BS14.at_ (i := 4) rfl
      have s5 := BS14.at_ (i := 5) rfl
      have s6 := BS14.at_ (i := 6) rfl
      have D14 := Lib.hid (D3.out.trans (H14.out.below.mono (Nat.le_succ _)))
      clear BS14
      go_wp2_with fail
      refine (tasksW (gens := ones 16) H14.out.writer (Nat.le_trans hB3 H14.out.size) (HP3.out.on H14.out.below) ((HA4.out.below D14.out).lower (Nat.zero_le _)) ((HA5.out.below D14.out).lower (Nat.zero_le _)) (ones64 16) (by rw [ones_length]; omega) (by simp [ones_length]; omega)).mono ?_
      rintro e w15 ⟨rfl, h15⟩
      have H15 : Wrote (w1.heap.size + 1) (w1.heap.size + 1) ahead0 w3 w15 := H14.out.trans h15
      have H15 := Lib.hid H15
      clear h15 s4 s5 s6
      have hla : ahead0.length ≤ 2386 := by
        unfold ahead0
        simp only [List.length_append]
        omega
      have hne : ahead0 ≠ [] := by unfold ahead0 lineL; simp
      go_wp2_with fail
      refine (stringW (w1.heap.size + 1) (w1.heap.size + 1) ahead0 _ H15.out.writer hne).mono ?_
      rintro e w16 ⟨rfl, h16, h17, h18⟩
      have H16 := Lib.hid (H15.out.trans ⟨h16, h17, h18⟩)
      clear h16 h17 h18
      go_wp2_with fail
      obtain ⟨U, hU, hU2⟩ : ∃ U : Nat, U = (sumI ahead0).toNat ∧ U < 4294967296 := ⟨_, rfl, by have := sumI_bound ahead0; omega⟩
      have hsum : sumI (⟨ahead0.toArray⟩ : ByteArray).data.toList = (U : Int) := by
        have := sumI_bound ahead0
        rw [List.toList_toArray, hU]
        omega
      have HU := Lib.hid hU
      clear hU
      refine (sumOf ⟨ahead0.toArray⟩ (by simp [ByteArray.size]; omega) _).mono ?_
      rw [hsum]
      rintro e w17 ⟨rfl, rfl⟩
      have D17 : Below w.heap.size w w17 := HA6.out.trans ((D3.out.trans (H16.out.below.mono (Nat.le_succ _))).mono hb1)
      have hD := Lib.hid (HD.out _ D17)
      clear hsum D17
      go_wp2_with fail
      refine (hexOf U hU2 _ hD.out).mono ?_
      rintro e w18 ⟨rfl, h18⟩
      have H18 := Lib.hid (H16.out.on h18 (Nat.le_trans hB3 H16.out.size))
      clear h18 hD
      have hxl := hexL_length U
      have e1 : (⟨#[115, 117, 109, 32]⟩ : ByteArray) ++ ⟨(hexL U).toArray⟩ = ⟨(115 :: 117 :: 109 :: 32 :: hexL U).toArray⟩ := bytes_app [115, 117, 109, 32] _
      have e2 : (⟨(115 :: 117 :: 109 :: 32 :: hexL U).toArray⟩ : ByteArray) ++ ⟨#[10]⟩ = ⟨(115 :: 117 :: 109 :: 32 :: (hexL U ++ [10])).toArray⟩ := bytes_app (115 :: 117 :: 109 :: 32 :: hexL U) [10]
      go_wp2_with fail
      refine (writeL (115 :: 117 :: 109 :: 32 :: (hexL U ++ [10])) H18.out.writer (by simp; omega) (Nat.le_trans hB3 H18.out.size)).mono ?_
      rintro e w19 ⟨rfl, h19⟩
      have H19 := Lib.hid (H18.out.trans h19)
      clear h19 e1 e2
      go_wp2_with fail
      refine (stringW (w1.heap.size + 1) (w1.heap.size + 1) (ahead0 ++ (115 :: 117 :: 109 :: 32 :: (hexL U ++ [10]))) _ H19.out.writer (by simp)).mono ?_
      rintro e w20 ⟨rfl, h20, h21, h22⟩
      have H20 := Lib.hid (H19.out.trans ⟨h20, h21, h22⟩)
      clear h20 h21 h22
      go_wp2
      go_ret
      refine ⟨?_, HA6.out.trans ((D3.out.trans (H20.out.below.mono (Nat.le_succ _))).mono hb1)⟩
      have hU := HU.out
      subst hU
      rfl
end Go.Proofs.YthoaadfkainpkaaDoor
