/- Maps whose entries are told one by one: a new key, a key that is there; any values. No program is named here. -/
import Derived.Test.YtcciodpchdijgaaGreatBase
import Derived.MapKept
import Derived.WideMake
namespace Go.Proofs.YtcciodpchdijgaaGreat
open Go.RowKit

/-- The world in which block r is this map. -/
def mapW (w : World) (r : Nat) (es : Array MapEntry) (clock : Nat) : World := { w with heap := w.heap.setIfInBounds r (.map es clock) }
theorem mapW_at {w : World} {r : Nat} {o : Obj} (h : w.heap[r]? = some o) (es : Array MapEntry) (clock : Nat) : (mapW w r es clock).heap[r]? = some (.map es clock) := (MapKept.heap_set h).1
theorem mapW_far {w : World} {r : Nat} {o : Obj} (h : w.heap[r]? = some o) (es : Array MapEntry) (clock : Nat) {b : Nat} (hb : b ≠ r) : (mapW w r es clock).heap[b]? = w.heap[b]? := (MapKept.heap_set h).2 b hb
theorem mapW_size (w : World) (r : Nat) (es : Array MapEntry) (clock : Nat) : (mapW w r es clock).heap.size = w.heap.size := by simp [mapW]
theorem below_mapW {B : Nat} {w0 w : World} (h : Below B w0 w) {r : Nat} {o : Obj} (hr : w.heap[r]? = some o) (hB : B ≤ r) (es : Array MapEntry) (clock : Nat) : Below B w0 (mapW w r es clock) :=
  ⟨h.os, h.tape, h.output, by rw [mapW_size]; exact h.size, fun b hb => (mapW_far hr es clock (by omega)).trans (h.block b hb)⟩
theorem Blk.mapW {w : World} {g : Nat} {t : TypeId} {cs : Array Value} (h : Blk w g t cs) {r : Nat} {o : Obj} (hr : w.heap[r]? = some o) (hne : g ≠ r) (es : Array MapEntry) (clock : Nat) : Blk (mapW w r es clock) g t cs := (mapW_far hr es clock hne).trans h

variable {P : Program} {w : World}
theorem run_update_new {mty kt et : TypeId} {d : TypeDesc} {r clock : Nat} {es : Array MapEntry} {k val : Value} (hm : P.underlying mty = some (.map kt et)) (hk : P.underlying kt = some d) (hkey : MapKept.IsKey d k) (hb : w.heap[r]? = some (.map es clock)) (hf : Instr.findNow d k es.toList 0 = some none) :
    (Instr.mapUpdate mty (.map (some r)) k val).run P w = .ok () (mapW w r (es.push { key := k, val := val, born := clock }) (clock + 1)) := by
  have hc : (Instr.checkKey false 10000 kt k).run P w = .ok () w := MapKept.run_checkKey hk hkey false 9999
  simp [Instr.mapUpdate, run_underlying hm, MapKept.run_getObj_map hb, hc, MapKept.run_findKey hk hf, MapKept.run_setObj_map _ hb, Result.andThen, mapW]
theorem run_lookup_there {mty kt et : TypeId} {d : TypeDesc} {r clock i : Nat} {es : Array MapEntry} {k v : Value} (hm : P.underlying mty = some (.map kt et)) (hk : P.underlying kt = some d) (hkey : MapKept.IsKey d k) (hb : w.heap[r]? = some (.map es clock)) (hf : Instr.findNow d k es.toList 0 = some (some (i, v))) :
    (Instr.lookup mty (.map (some r)) k true).run P w = .ok (.tuple #[v, .bool true]) w := by
  have hc : ∀ em, (Instr.checkKey em 10000 kt k).run P w = .ok () w := fun em => MapKept.run_checkKey hk hkey em 9999
  simp [Instr.lookup, run_underlying hm, MapKept.run_getObj_map hb, hc, MapKept.run_findKey hk hf, Result.andThen]
end Go.Proofs.YtcciodpchdijgaaGreat
