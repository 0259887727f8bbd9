/- What a new kernel answers: its nodes, its accounts, its pool, its state. -/
import Derived.Test.YthoaadfkainpkaaDoorSnK
namespace Go.Proofs.YthoaadfkainpkaaDoor
open Go.RowKit
set_option linter.unusedVariables false

/-- A new kernel, its blocks named. -/
structure KAt (w : World) (k gT gL gN gF gB gM gP gQ gR : Nat) : Prop where
  kern : Blk w k 59 [.pointer (some ⟨gT, 0, none⟩), .int .i64 rootH, .pointer (some ⟨gB, 0, none⟩), .pointer (some ⟨gP, 0, none⟩), .int .i64 0, .int .i64 0]
  tab : NTab w gT gL 1 64 (fun _ => 1) (fun j => if j = 0 then true else false) (fun j => if j = 0 then some ⟨gN, 0, none⟩ else none)
  node : Blk w gN 53 (node0 gF)
  book : Blk w gB 112 [.int .i64 rootH, .map (some gM)]
  map : Map1 w gM rootH entry0
  pool : Blk w gP 114 [.pointer (some ⟨gQ, 0, none⟩), .int .i64 (-1)]
  tasks : TTab w gQ gR 3 16 (fun _ => 1)
namespace KAt
variable {w w' : World} {k gT gL gN gF gB gM gP gQ gR : Nat}
theorem below (h : KAt w k gT gL gN gF gB gM gP gQ gR) (hb : Below w.heap.size w w') : KAt w' k gT gL gN gF gB gM gP gQ gR :=
  ⟨h.kern.below hb h.kern.lt, h.tab.below hb h.tab.head.lt h.tab.list.lt, h.node.below hb h.node.lt, h.book.below hb h.book.lt, h.map.below hb h.map.lt, h.pool.below hb h.pool.lt, h.tasks.below hb h.tasks.head.lt h.tasks.list.lt⟩
theorem alloc (h : KAt w k gT gL gN gF gB gM gP gQ gR) (o : Obj) : KAt (w.alloc o) k gT gL gN gF gB gM gP gQ gR := h.below ((Below.refl _ _).alloc (Nat.le_refl _) _)
theorem drewN (h : KAt w k gT gL gN gF gB gM gP gQ gR) (n : Nat) : KAt (w.drewN n) k gT gL gN gF gB gM gP gQ gR := h.below (below_drewN (Below.refl _ _) _)
theorem drew (h : KAt w k gT gL gN gF gB gM gP gQ gR) : KAt w.drew k gT gL gN gF gB gM gP gQ gR := h.drewN 1
end KAt

variable {w : World} {k gT gL gN gF gB gM gP gQ gR : Nat}

theorem handles_root : handlesTo 1 (fun _ => 1) (fun j => if j = 0 then true else false) 64 = [rootH] := by decide +kernel
theorem tab_may : ∀ i : Nat, i < 64 → (if i = 0 then true else false) = true → mayBe 1 (i : Int) 1 := by
  intro i _ h
  by_cases e : i = 0
  · subst e; exact rootH_may
  · simp [e] at h

theorem getRoot (h : KAt w k gT gL gN gF gB gM gP gQ gR) : Calls Tryd.prog 39 #[.pointer (some ⟨gT, 0, none⟩), .int .i64 rootH] w fun e w' =>
    e = .returned (.tuple #[.pointer (some ⟨gN, 0, none⟩), .nilIface]) ∧ ∃ n, w' = w.drewN n :=
  getN rootH 0 h.tab (by omega) (by omega) rfl rootH_may rfl

/-- An owned row of one cell: its slice and the cell. -/
theorem own_one {w : World} {base : Nat} {e : TypeId} {v u : Value} (h : w.ownsRow base e 1 v 1 [u]) : ∃ g c, v = .slice (some ⟨g, 0, none⟩) 1 c ∧ w.cell? ⟨g, 0, none⟩ = some u := by
  rcases h.2 with ⟨_, h0⟩ | ⟨g, cap, cur, hv, _⟩
  · cases h0
  · subst hv
    exact ⟨g, cap, rfl, h.cells (g := g) rfl 0 u rfl⟩

theorem allRoot (h : KAt w k gT gL gN gF gB gM gP gQ gR) : Calls Tryd.prog 81 #[.pointer (some ⟨gT, 0, none⟩)] w fun e w' =>
    ∃ g c, e = .returned (.slice (some ⟨g, 0, none⟩) 1 c) ∧ w'.cell? ⟨g, 0, none⟩ = some (.int .i64 rootH) ∧ Below w.heap.size w w' := by
  refine (allN h.tab (by omega) tab_may).mono ?_
  rintro e w1 ⟨v, rfl, a1, a2⟩
  rw [handles_root] at a1
  obtain ⟨g, c, rfl, hc⟩ := own_one a1
  exact ⟨g, c, rfl, hc, a2⟩

set_option maxHeartbeats 2000000 in
theorem kids0 (h : KAt w k gT gL gN gF gB gM gP gQ gR) : Calls Tryd.prog 66 #[.pointer (some ⟨k, 0, none⟩), .int .i64 rootH] w fun e w' => e = .returned (.slice none 0 0) ∧ Below w.heap.size w w' := by
  have H := Lib.hid h
  have k0 := h.kern.at_ (i := 0) rfl
  have A := Lib.hid (allRoot h)
  have hne : (0 == rootH) = false := beq_eq_false_iff_ne.2 rootH_ne.symm
  clear h
  go_enter Tryd.func66, Tryd.ntmps66
  go_wp2_with (go_at_call 81; refine A.out.mono ?_; rintro e w1 ⟨g, c, rfl, a1, a2⟩)
  have H1 := Lib.hid (H.out.below a2)
  have HB := Lib.hid a2
  have k1 := H1.out.kern.at_ (i := 0) rfl
  clear k0 a2
  go_loopw [5, 16] (fun v u wr => ∃ i : Nat, i ≤ 1 ∧ u = .int .i64 i ∧ v = .slice none 0 0 ∧ wr.cell? ⟨g, 0, none⟩ = some (.int .i64 rootH) ∧ KAt wr k gT gL gN gF gB gM gP gQ gR ∧ Below w.heap.size w wr) (fun _ u _ => 1 - (intOf u).toNat)
  case atStart => exact ⟨0, by omega, rfl, rfl, a1, H1.out, HB.out⟩
  case round =>
    obtain ⟨i, hi, rfl, rfl, b1, b2, b3⟩ := hrel
    clear k1
    by_cases e : i = 0
    · subst e
      have k2 := b2.kern.at_ (i := 0) rfl
      have n2 := b2.node.at_ (i := 0) rfl
      have G := Lib.hid (getRoot b2)
      have HK := Lib.hid b2
      have HB2 := Lib.hid b3
      clear b2 b3
      go_wp2_with (go_at_call 39; refine G.out.mono ?_; rintro e w2 ⟨rfl, n, rfl⟩)
      go_roundw
      case rel => exact ⟨1, by omega, rfl, rfl, b1, HK.out.drewN _, below_drewN HB2.out _⟩
      case measure => simp [intOf]
    · obtain rfl : i = 1 := by omega
      have HB2 := Lib.hid b3
      clear b2 b3
      go_wp2
      go_ret
      exact ⟨rfl, HB2.out⟩

/-- It hands back a slice of one handle, the root's. -/
def OneRoot (B : Nat) (w : World) (e : Ending) (w' : World) : Prop := ∃ g c, e = .returned (.slice (some ⟨g, 0, none⟩) 1 c) ∧ w'.cell? ⟨g, 0, none⟩ = some (.int .i64 rootH) ∧ Below B w w'
theorem infoH1 : (Tryd.prog.info? 34).map (fun i => (i.zero, i.size, i.bytes)) = some (some (.int .i64 0), 1, 8) := infoH

set_option maxHeartbeats 2000000 in
theorem walk0 (h : KAt w k gT gL gN gF gB gM gP gQ gR) : Calls Tryd.prog 50 #[.pointer (some ⟨k, 0, none⟩), .slice none 0 0, .int .i64 rootH] w (OneRoot w.heap.size w) := by
  have H := Lib.hid h
  clear h
  go_enter Tryd.func50, Tryd.ntmps50
  go_wp2_with (at_builtin; refine app1 _ rfl _ _ 26 rfl w.heap.size 34 _ 8 Tryd.underlying26 infoH rfl _ 0 [] rfl (own_nil _ _ _ _) w.heap.size 1 (.int .i64 rootH) rfl (cell_new _ _ _ rfl) rfl (by omega) (by omega) (by rw [size_alloc]; omega) ?_
               intro v1 w1 hown1 hg1
               obtain ⟨g, c, rfl, hc⟩ := own_one hown1
               have HB := Lib.hid (((Below.refl w.heap.size w).alloc (Nat.le_refl _) (.cells #[.int .i64 rootH] 34)).grown hg1 (by rw [size_alloc]; omega) (by intro k hk; cases hk))
               have hgl : g < w1.heap.size := by
                 rcases Nat.lt_or_ge g w1.heap.size with a | a
                 · exact a
                 · simp [World.cell?, Array.getElem?_eq_none a] at hc
               have HK1 := Lib.hid (H.out.below HB.out)
               have HC := Lib.hid hc
               clear hown1 hg1 hc)
  refine (kids0 HK1.out).mono ?_
  rintro e w2 ⟨rfl, hb2⟩
  have HB2 := Lib.hid (HB.out.trans (hb2.mono HB.out.size))
  have HC2 := Lib.hid ((hb2.cell (p := ⟨g, 0, none⟩) hgl).trans HC.out)
  clear hb2
  go_wp2
  go_loop [1, 17] (fun v u => v = .slice (some ⟨g, 0, none⟩) (0 + 1) c ∧ u = .int .i64 0) (fun _ _ => 0)
  case atStart => exact ⟨rfl, rfl⟩
  case round =>
    obtain ⟨rfl, rfl⟩ := hrel
    go_wp2
    go_ret
    exact ⟨g, c, rfl, HC2.out, HB2.out⟩

set_option maxHeartbeats 1000000 in
theorem all0 (h : KAt w k gT gL gN gF gB gM gP gQ gR) : Calls Tryd.prog 38 #[.pointer (some ⟨k, 0, none⟩)] w (OneRoot w.heap.size w) := by
  have W := Lib.hid (walk0 h)
  have k1 := h.kern.at_ (i := 1) rfl
  clear h
  go_enter Tryd.func38, Tryd.ntmps38
  go_wp2_with (go_at_call 50; refine W.out.mono ?_; rintro e w1 ⟨g, c, rfl, a1, a2⟩)
  go_ret
  exact ⟨g, c, rfl, a1, a2⟩

set_option maxHeartbeats 1000000 in
theorem ledgerFind0 (h : KAt w k gT gL gN gF gB gM gP gQ gR) : Calls Tryd.prog 52 #[.pointer (some ⟨gB, 0, none⟩), .int .i64 rootH] w fun e w' =>
    e = .returned (.tuple #[.agg #[.int .i64 0, .int .i64 0, .int .i64 0, .int .i64 0, .int .i64 0, .int .i64 0, .int .i64 0, .int .i64 0, .int .i64 0, .int .i64 0, .int .i64 0, .int .i64 0, .int .i64 0], .nilIface]) ∧ Below w.heap.size w w' := by
  have b1 := h.book.at_ (i := 1) rfl
  have look : ∀ o : Obj, (Instr.lookup 110 (.map (some gM)) (.int .i64 rootH) true).run Tryd.prog (w.alloc o) = .ok (.tuple #[entry0, .bool true]) (w.alloc o) :=
    fun o => run_look_one (P := Tryd.prog) Tryd.underlying110 Tryd.underlying34 (h.map.alloc o)
  unfold entry0 at look
  have lb := h.book.lt
  clear h
  go_enter Tryd.func52, Tryd.ntmps52
  go_wp2
  exact bodyPost_ret (v := .tuple #[.agg #[.int .i64 0, .int .i64 0, .int .i64 0, .int .i64 0, .int .i64 0, .int .i64 0, .int .i64 0, .int .i64 0, .int .i64 0, .int .i64 0, .int .i64 0, .int .i64 0, .int .i64 0], .nilIface]) (by simp [results, Tryd.results52, go_sem]) rfl ⟨rfl, by repeat (first | exact Below.refl _ _ | (refine Below.alloc ?_ (by simp) _))⟩

set_option maxHeartbeats 1000000 in
theorem ledgerOf0 (h : KAt w k gT gL gN gF gB gM gP gQ gR) : Calls Tryd.prog 40 #[.pointer (some ⟨gB, 0, none⟩), .int .i64 rootH] w fun e w' =>
    e = .returned (.tuple #[.agg #[.int .i64 0, .int .i64 0, .int .i64 0, .int .i64 0, .int .i64 0, .int .i64 0], .agg #[.int .i64 0, .int .i64 0, .int .i64 0, .int .i64 0, .int .i64 0, .int .i64 0], .nilIface]) ∧ Below w.heap.size w w' := by
  have F := fun o1 o2 => Lib.hid (ledgerFind0 ((h.alloc o1).alloc o2))
  clear h
  go_enter Tryd.func40, Tryd.ntmps40
  go_wp2_with fail
  refine (F _ _).out.mono ?_
  rintro e w1 ⟨rfl, hb⟩
  have B4 : Blk w1 w.heap.size 77 [.int .i64 0, .int .i64 0, .int .i64 0, .int .i64 0, .int .i64 0, .int .i64 0] := Blk.below ((Blk.newA w #[.int .i64 0, .int .i64 0, .int .i64 0, .int .i64 0, .int .i64 0, .int .i64 0] 77).alloc _) hb (by simp; omega)
  have B5 : Blk w1 (w.heap.size + 1) 77 [.int .i64 0, .int .i64 0, .int .i64 0, .int .i64 0, .int .i64 0, .int .i64 0] := Blk.below (Blk.newA' (w.alloc (.cells #[.int .i64 0, .int .i64 0, .int .i64 0, .int .i64 0, .int .i64 0, .int .i64 0] 77)) #[.int .i64 0, .int .i64 0, .int .i64 0, .int .i64 0, .int .i64 0, .int .i64 0] 77 (by simp)) hb (by simp)
  have p0 := B4.at_ (i := 0) rfl
  have q0 := B5.at_ (i := 0) rfl
  have f0 := B4.frozen 0
  have g0 := B5.frozen 0
  have p1 := B4.at_ (i := 1) rfl
  have q1 := B5.at_ (i := 1) rfl
  have f1 := B4.frozen 1
  have g1 := B5.frozen 1
  have p2 := B4.at_ (i := 2) rfl
  have q2 := B5.at_ (i := 2) rfl
  have f2 := B4.frozen 2
  have g2 := B5.frozen 2
  have p3 := B4.at_ (i := 3) rfl
  have q3 := B5.at_ (i := 3) rfl
  have f3 := B4.frozen 3
  have g3 := B5.frozen 3
  have p4 := B4.at_ (i := 4) rfl
  have q4 := B5.at_ (i := 4) rfl
  have f4 := B4.frozen 4
  have g4 := B5.frozen 4
  have p5 := B4.at_ (i := 5) rfl
  have q5 := B5.at_ (i := 5) rfl
  have f5 := B4.frozen 5
  have g5 := B5.frozen 5
  have hl4 := B4.lt
  have hl5 := B5.lt
  have HB := Lib.hid (((((Below.refl w.heap.size w).alloc (Nat.le_refl _) _).alloc (by simp) _).trans (hb.mono (by simp; omega))))
  clear hb
  go_wp2
  go_region
  all_goals go_wp2
  all_goals
    refine bodyPost_ret (v := .tuple #[.agg #[.int .i64 0, .int .i64 0, .int .i64 0, .int .i64 0, .int .i64 0, .int .i64 0], .agg #[.int .i64 0, .int .i64 0, .int .i64 0, .int .i64 0, .int .i64 0, .int .i64 0], .nilIface]) ?_ rfl ⟨rfl, ?_⟩
    · simp [results, Tryd.results40, go_sem, *]
    · repeat (first | (with_reducible exact HB.out) | (with_reducible refine Below.setCell ?_ (by simp) _) | (with_reducible apply Below.drew) | (with_reducible refine Below.alloc ?_ (by first | omega | (simp; omega)) _))

theorem results_tmp4 {fn : Func} {a b c d : Tmp} (h : fn.results = #[.tmp a, .tmp b, .tmp c, .tmp d]) (tmps : Array Value) (P : Program) (w : World) :
    (results fn tmps).run P w = .ok (.tuple #[tmps.getD a undef, tmps.getD b undef, tmps.getD c undef, tmps.getD d undef]) w := by simp [results, h]
/-- What the pool of a new kernel saves: 16 slots, no task. -/
def Saved0 (B : Nat) (w : World) (e : Ending) (w' : World) : Prop := ∃ v u, e = .returned (.tuple #[v, u, .slice none 0 0, .int .i64 (-1)]) ∧ w'.ownsRow B 3 1 v 16 (gensTo (fun _ => 1) 16) ∧ w'.ownsRow B 4 1 u 16 (takenTo (fun _ => false) 16) ∧ Below B w w'

set_option maxHeartbeats 2000000 in
theorem poolSave0 (h : KAt w k gT gL gN gF gB gM gP gQ gR) : Calls Tryd.prog 42 #[.pointer (some ⟨gP, 0, none⟩)] w (Saved0 w.heap.size w) := by
  have S := Lib.hid (slotsT h.tasks (by omega))
  have p0 := h.pool.at_ (i := 0) rfl
  have HK := Lib.hid h
  clear h
  go_enter Tryd.func42, Tryd.ntmps42
  go_wp2_with fail
  refine S.out.mono ?_
  rintro e w1 ⟨v, u, rfl, a1, a2, a3⟩
  have HK1 := Lib.hid (HK.out.below a3)
  have p1 := HK1.out.pool.at_ (i := 0) rfl
  have A := Lib.hid (allT HK1.out.tasks (by omega))
  have HA1 := Lib.hid a1
  have HA2 := Lib.hid a2
  have HA3 := Lib.hid a3
  have hs := a3.size
  clear a1 a2 a3 p0
  go_wp2_with fail
  refine A.out.mono ?_
  rintro e w2 ⟨rfl, b1⟩
  have HK2 := Lib.hid (HK1.out.below b1)
  have p2 := HK2.out.pool.at_ (i := 1) rfl
  have HB1 := Lib.hid (HA1.out.kept (row := none) ⟨b1.os, b1.tape, b1.output, b1.size, fun i hi _ => b1.block i hi⟩ (by cases hv : v.ownBlock <;> simp))
  have HB2 := Lib.hid (HA2.out.kept (row := none) ⟨b1.os, b1.tape, b1.output, b1.size, fun i hi _ => b1.block i hi⟩ (by cases hv : u.ownBlock <;> simp))
  have HB3 := Lib.hid (HA3.out.trans (b1.mono hs))
  clear p1 b1
  go_wp2
  go_loop [8, 29] (fun x y => x = .slice none 0 0 ∧ y = .int .i64 0) (fun _ _ => 0)
  case atStart => exact ⟨rfl, rfl⟩
  case round =>
    obtain ⟨rfl, rfl⟩ := hrel
    go_wp2
    go_quiet (fail)
    go_wp2
    exact bodyPost_ret (results_tmp4 rfl _ _ _) rfl ⟨v, u, rfl, HB1.out, HB2.out, below_drewN HB3.out _⟩
end Go.Proofs.YthoaadfkainpkaaDoor
