/- A map from strings to strings that lies in one block, in plain words: looking up, storing, deleting, clearing, counting. -/
import Derived.Test.YtpgfffibiogekaaProg
import Derived.Maps.OwnSet
import Derived.Maps.StringElems
import Derived.Below
import Derived.WalkKit
set_option linter.unusedVariables false
set_option linter.unusedSimpArgs false
namespace Go.Proofs.Ytpgfffibiogekaa.MS
open Go.RowKit Go.ChangeMaps Go.MapKept Go.WideShapes
open Go.Maps (Keyed IsMap Tidy string_keyed)
open Go.WideElems (Fit)

def key (s : ByteArray) : Lit := .string s.data.toList
def str (s : ByteArray) : DataW Unit := .lit (.string s.data.toList)
def unstr : DataW Unit → ByteArray
  | .lit (.string l) => ⟨l.toArray⟩
  | _ => ByteArray.empty
theorem unstr_str (s : ByteArray) : unstr (str s) = s := rfl
theorem key_inj {s t : ByteArray} (h : key s = key t) : s = t := by
  unfold key at h
  have h1 := Lit.string.inj h
  cases s; cases t
  simp only [ByteArray.mk.injEq]
  exact Array.toList_inj.1 h1
theorem key_ok (s : ByteArray) : WideAt.IsKeyLit (key s) := trivial
/-- what a map says of a name -/
def look (D : DataW Unit) (s : ByteArray) : Option ByteArray := if Maps.has D (key s) = true then some (unstr (D.atKey (key s) (str ByteArray.empty))) else none
theorem look_is (D : DataW Unit) (s : ByteArray) : (look D s).isSome = Maps.has D (key s) := by
  unfold look; split
  · rename_i h; rw [h]; rfl
  · rename_i h; simp only [Bool.not_eq_true] at h; rw [h]; rfl
theorem look_put (D : DataW Unit) (hD : IsMap D) (s v t : ByteArray) : look (D.put (key s) (str v)) t = if t = s then some v else look D t := by
  unfold look
  by_cases h : t = s
  · subst h
    rw [if_pos (Maps.has_put_same hD (key_ok t) _), Maps.atKey_put_same hD (key_ok t), unstr_str, if_pos rfl]
  · have hne : key t ≠ key s := fun e => h (key_inj e)
    rw [if_neg h, Maps.has_put_other hne, Maps.atKey_put_other hne]
theorem look_del (D : DataW Unit) (s t : ByteArray) : look (D.del (key s)) t = if t = s then none else look D t := by
  unfold look
  by_cases h : t = s
  · subst h
    rw [Maps.has_del_same, if_neg (by simp), if_pos rfl]
  · have hne : key t ≠ key s := fun e => h (key_inj e)
    rw [if_neg h, Maps.has_del_other hne, Maps.atKey_del_other hne]
theorem look_nil (s : ByteArray) : look (.map []) s = none := rfl

abbrev TS : TypeId := 9
abbrev TM : TypeId := 52
theorem law : Keyed Try.prog TS := string_keyed Try.underlying9
theorem zeroS (w : World) : (zeroValue TS).run Try.prog w = .ok (.string ByteArray.empty) w := by kernel_rfl
/-- block b is a map that says D -/
def Mp (w : World) (b : Nat) (D : DataW Unit) : Prop := w.ownsMap Try.prog TS (plainElem Try.prog TS) b (Maps.size D) D
theorem mp_of {w : World} {b n : Nat} {D : DataW Unit} (h : w.ownsMap Try.prog TS (plainElem Try.prog TS) b n D) : Mp w b D := by
  obtain ⟨es, clock, hb, F, hs, rfl⟩ := h
  exact ⟨es, clock, hb, F, by simp [Maps.size, length_sorted], rfl⟩
theorem Mp.tidy {w : World} {b : Nat} {D : DataW Unit} (h : Mp w b D) : Tidy D := World.ownsMap.tidy h law
theorem Mp.isMap {w : World} {b : Nat} {D : DataW Unit} (h : Mp w b D) : IsMap D := World.ownsMap.isMap h
theorem Mp.lt {w : World} {b : Nat} {D : DataW Unit} (h : Mp w b D) : b < w.heap.size := World.ownsMap.lt h
theorem Mp.kept {w w' : World} {b : Nat} {D : DataW Unit} {row : Option Nat} (h : Mp w b D) (hg : w.grownBy w' row) (hne : some b ≠ row) : Mp w' b D := World.ownsMap.kept h hg hne
theorem Mp.below {w w' : World} {b : Nat} {D : DataW Unit} (h : Mp w b D) (hb : Below w.heap.size w w') : Mp w' b D := by
  have hl := h.lt
  obtain ⟨es, clock, h1, h2⟩ := h
  exact ⟨es, clock, (hb.block b hl).trans h1, h2⟩
theorem Mp.alloc {w : World} {b : Nat} {D : DataW Unit} (h : Mp w b D) (o : Obj) : Mp (w.alloc o) b D := World.ownsMap.alloc h o
theorem Mp.setCell {w : World} {b : Nat} {D : DataW Unit} (h : Mp w b D) {a : Addr} (ha : b ≠ a.block) (u : Value) : Mp (w.setCell a u) b D := World.ownsMap.setCell h ha u
theorem Mp.made (w : World) : Mp (w.alloc (.map #[] 0)) w.heap.size (.map []) := World.ownsMap_made w Try.prog TS _
theorem Mp.turned_size {w w' : World} {b : Nat} (h : w.mapTurned w' b) : w'.heap.size = w.heap.size := by
  obtain ⟨es, c, es', c', hb, rfl⟩ := h
  simp [setBlock]
theorem size_put (D : DataW Unit) (h : Tidy D) (s v : ByteArray) : Maps.size (D.put (key s) (str v)) = if (look D s).isSome then Maps.size D else Maps.size D + 1 := by
  rw [look_is]; exact Maps.size_put h _
theorem size_del (D : DataW Unit) (h : Tidy D) (s : ByteArray) : Maps.size (D.del (key s)) + (if (look D s).isSome then 1 else 0) = Maps.size D := by
  rw [look_is]; exact Maps.size_del h

section
variable (w : World) {ops : Array Oper} {rest : List Oper} {o : Oper} {a : Act} {Q : Exit → Act → World → Prop}
theorem wpList_look (hg : o.guard = none) (m x : Operand) (t : TypeId) (hop : o.op = Op.lookup t m x true) (ht : t = TM) (b : Nat) (D : DataW Unit) (s : ByteArray)
    (hm : a.eval m = .map (some b)) (h : Mp w b D) (hx : a.eval x = .string s) (hs : s.size ≤ maxLen)
    (hK : wpList Try.prog ops Q rest (a.put o.dst (.tuple #[.string ((look D s).getD ByteArray.empty), .bool (look D s).isSome])) w) :
    wpList Try.prog ops Q (o :: rest) a w := by
  subst ht
  refine wpList_lookup_own_ok w hg m x TM hop TS TS law Try.underlying52 (plainElem Try.prog TS) (zeroS _) (str ByteArray.empty) [] (plainElem_string Try.underlying9 (by decide)) b _ D hm h _ (key s) hx (WideMaps.keyOf_string_mk Try.underlying9 hs) ?_
  intro v ps hv
  obtain ⟨c, rfl, hc, _⟩ := plainElem_string_inv Try.underlying9 hv
  have hc1 := congrArg Prod.fst hc
  simp only at hc1
  have e : (look D s).getD ByteArray.empty = c := by
    unfold look
    cases hh : Maps.has D (key s) with
    | true => rw [if_pos rfl, hc1]; exact unstr_str c
    | false =>
      rw [if_neg (by simp), Option.getD_none]
      rw [Maps.atKey_of_not_has hh] at hc1
      have := congrArg unstr hc1
      exact this
  rw [e, look_is] at hK
  exact hK
theorem wpList_store (hg : o.guard = none) (m x v : Operand) (t : TypeId) (hop : o.op = Op.mapUpdate t m x v) (ht : t = TM) (b : Nat) (D : DataW Unit) (s u : ByteArray)
    (hm : a.eval m = .map (some b)) (h : Mp w b D) (hn : Maps.size D < maxLen) (hx : a.eval x = .string s) (hv : a.eval v = .string u) (hs : s.size ≤ maxLen) (hu : u.size ≤ maxLen)
    (hK : ∀ w', Mp w' b (D.put (key s) (str u)) → w.mapTurned w' b → wpList Try.prog ops Q rest (a.put o.dst undef) w') :
    wpList Try.prog ops Q (o :: rest) a w := by
  subst ht
  exact wpList_mapUpdate_in w hg m x v TM hop TS TS law Try.underlying52 (plainElem Try.prog TS) b _ D hm h hn _ _ (key s) hx hv (WideMaps.keyOf_string_mk Try.underlying9 hs) (str u) [] (plainElem_string Try.underlying9 hu) fun w' h1 h2 => hK w' (mp_of h1) h2
theorem wpList_drop (hg : o.guard = none) (m x : Operand) (t k : TypeId) (hop : o.op = Op.call { callee := Callee.builtin Builtin.delete, args := #[m, x], argTypes := #[t, k] }) (ht : t = TM) (hk : k = TS) (b : Nat) (D : DataW Unit) (s : ByteArray)
    (hm : a.eval m = .map (some b)) (h : Mp w b D) (hx : a.eval x = .string s) (hs : s.size ≤ maxLen)
    (hK : ∀ w', Mp w' b (D.del (key s)) → w.mapTurned w' b → wpList Try.prog ops Q rest (a.put o.dst (.tuple #[])) w') :
    wpList Try.prog ops Q (o :: rest) a w := by
  subst ht; subst hk
  exact wpList_delete_own w hg m x TM TS hop TS law Try.underlying52 (plainElem Try.prog TS) b _ D hm h _ (key s) hx (WideMaps.keyOf_string_mk Try.underlying9 hs) fun w' h1 h2 => hK w' (mp_of h1) h2
end
theorem Mp.len {w : World} {b : Nat} {D : DataW Unit} (h : Mp w b D) (ty : TypeId) : (Builtin.len_ #[TM] ty #[.map (some b)]).run Try.prog w = .ok (.int .i64 (Maps.size D)) w := World.ownsMap.len h Try.underlying52 ty
theorem Mp.clear {w : World} {b : Nat} {D : DataW Unit} (h : Mp w b D) (ty : TypeId) : ∃ w', (Builtin.clear_ #[TM] ty #[.map (some b)]).run Try.prog w = .ok (.tuple #[]) w' ∧ Mp w' b (.map []) ∧ w.mapTurned w' b := by
  obtain ⟨es, clock, hb, F, hs, rfl⟩ := h
  refine ⟨setBlock w b (.map #[] clock), ?_, ⟨#[], clock, heap_setBlock_same hb _, ?_, by simp [Maps.size], rfl⟩, ⟨es, clock, #[], clock, hb, rfl⟩⟩
  · simp [Builtin.clear_, run_underlying Try.underlying52, MapKept.run_getObj_map hb, MapKept.run_setObj_map _ hb, Result.andThen, setBlock]
  · exact ⟨by simp, stamped_empty clock, by simp⟩
end Go.Proofs.Ytpgfffibiogekaa.MS
