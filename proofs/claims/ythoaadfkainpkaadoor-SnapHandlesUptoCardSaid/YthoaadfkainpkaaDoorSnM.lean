/- A map of whole-number keys with one entry: made by a literal, looked into. -/
import Derived.Test.YthoaadfkainpkaaDoorSnW
import Derived.Maps.Own
import Derived.Maps.OwnSet
namespace Go.Proofs.YthoaadfkainpkaaDoor
open Go.RowKit Go.ChangeMaps Go.MapKept
set_option linter.unusedVariables false

/-- Block b is a map with one entry. -/
def Map1 (w : World) (b : Nat) (h : Int) (v : Value) : Prop := w.heap[b]? = some (.map #[⟨.int .i64 h, v, 0⟩] 1)
namespace Map1
variable {w w' : World} {b : Nat} {h : Int} {v : Value}
theorem lt (m : Map1 w b h v) : b < w.heap.size := (Array.getElem?_eq_some_iff.1 m).1
theorem below {B : Nat} (m : Map1 w b h v) (hb : Below B w w') (hl : b < B) : Map1 w' b h v := (hb.block b hl).trans m
theorem alloc (m : Map1 w b h v) (o : Obj) : Map1 (w.alloc o) b h v := (Below.heap_alloc w o b m.lt).trans m
theorem drewN (m : Map1 w b h v) (n : Nat) : Map1 (w.drewN n) b h v := m
theorem grown {row : Option Nat} (m : Map1 w b h v) (hg : w.grownBy w' row) (hne : some b ≠ row) : Map1 w' b h v := (hg.block b m.lt hne).trans m
end Map1

section
variable {P : Program} {w : World} {t k e : TypeId} {b : Nat} {h : Int} {v : Value}
theorem check_int (hk : P.underlying k = some (.int .i64)) (em : Bool) (w : World) (h : Int) : (Instr.checkKey em 10000 k (.int .i64 h)).run P w = .ok () w := by
  rw [show (10000 : Nat) = 9999 + 1 from rfl, Instr.checkKey]
  simp [run_underlying hk]
theorem run_put_first (ht : P.underlying t = some (.map k e)) (hk : P.underlying k = some (.int .i64)) (hb : w.heap[b]? = some (.map #[] 0)) :
    ∃ w', (Instr.mapUpdate t (.map (some b)) (.int .i64 h) v).run P w = .ok () w' ∧ Map1 w' b h v ∧ w.grownBy w' (some b) := by
  refine ⟨setBlock w b (.map #[⟨.int .i64 h, v, 0⟩] 1), ?_, heap_setBlock_same hb _, ⟨rfl, rfl, rfl, by simp [setBlock], fun i _ hi => heap_setBlock_other hb _ (fun e => hi (by rw [e]))⟩⟩
  simp [Instr.mapUpdate, run_underlying ht, MapKept.run_getObj_map hb, check_int hk, run_underlying hk, Instr.findKey, Instr.findNow, MapKept.run_setObj_map _ hb, setBlock, Result.andThen]
theorem run_look_one (ht : P.underlying t = some (.map k e)) (hk : P.underlying k = some (.int .i64)) (hb : Map1 w b h v) :
    (Instr.lookup t (.map (some b)) (.int .i64 h) true).run P w = .ok (.tuple #[v, .bool true]) w := by
  unfold Map1 at hb
  unfold Instr.lookup
  simp [run_underlying ht, MapKept.run_getObj_map hb, check_int hk, run_underlying hk, Instr.findKey, Instr.findNow, Instr.sameNow, Result.andThen]

theorem wpList_insert_first {ops : Array Oper} {rest : List Oper} {o : Oper} {a : Act} {Q : Exit → Act → World → Prop}
    (hg : o.guard = none) (m x y : Operand) (t : TypeId) (hop : o.op = Op.insert t m x y) (k e : TypeId) (ht : P.underlying t = some (.map k e)) (hk : P.underlying k = some (.int .i64)) (b : Nat) (h : Int) (v : Value)
    (hm : a.eval m = .map (some b)) (hx : a.eval x = .int .i64 h) (hy : a.eval y = v) (hb : w.heap[b]? = some (.map #[] 0))
    (hK : ∀ w', Map1 w' b h v → w.grownBy w' (some b) → wpList P ops Q rest (a.put o.dst undef) w') : wpList P ops Q (o :: rest) a w := by
  refine wpList_plain hg fun K' hK' => ?_
  obtain ⟨w', hrun, r1, r2⟩ := run_put_first (P := P) (h := h) (v := v) ht hk hb
  unfold Oper.wp
  simp [execOp, hop, hm, hx, hy, hrun, Result.andThen]
  exact hK' _ _ (hK w' r1 r2)
end
end Go.Proofs.YthoaadfkainpkaaDoor
