/- A map from strings to whole numbers that lies in one block, in plain words: looking up, storing. -/
import Derived.Test.YtapfblaejmenlaaDoorProg
import Derived.Maps.OwnSet
import Derived.Maps.StringElems
import Derived.Below
import Derived.WalkKit
set_option linter.unusedVariables false
set_option linter.unusedSimpArgs false
namespace Go.Proofs.YtapfblaejmenlaaDoor.MI
open Go.RowKit Go.ChangeMaps Go.MapKept Go.WideShapes
open Go.Maps (Keyed IsMap Tidy string_keyed)
open Go.WideElems (Fit)

def key (s : ByteArray) : Lit := .string s.data.toList
def num (z : Int) : DataW Unit := .lit (.int .i64 z)
def unnum : DataW Unit → Int
  | .lit (.int .i64 z) => z
  | _ => 0
theorem unnum_num (z : Int) : unnum (num z) = z := rfl
theorem key_inj {s t : ByteArray} (h : key s = key t) : s = t := by
  unfold key at h
  have h1 := Lit.string.inj h
  cases s; cases t
  simp only [ByteArray.mk.injEq]
  exact Array.toList_inj.1 h1
theorem key_ok (s : ByteArray) : WideAt.IsKeyLit (key s) := trivial
/-- what a map says of a name -/
def look (D : DataW Unit) (s : ByteArray) : Option Int := if Maps.has D (key s) = true then some (unnum (D.atKey (key s) (num 0))) else none
theorem look_is (D : DataW Unit) (s : ByteArray) : (look D s).isSome = Maps.has D (key s) := by
  unfold look; split
  · rename_i h; rw [h]; rfl
  · rename_i h; simp only [Bool.not_eq_true] at h; rw [h]; rfl
theorem look_put (D : DataW Unit) (hD : IsMap D) (s t : ByteArray) (v : Int) : look (D.put (key s) (num v)) t = if t = s then some v else look D t := by
  unfold look
  by_cases h : t = s
  · subst h
    rw [if_pos (Maps.has_put_same hD (key_ok t) _), Maps.atKey_put_same hD (key_ok t), unnum_num, if_pos rfl]
  · have hne : key t ≠ key s := fun e => h (key_inj e)
    rw [if_neg h, Maps.has_put_other hne, Maps.atKey_put_other hne]
theorem look_nil (s : ByteArray) : look (.map []) s = none := rfl

abbrev TS : TypeId := 9
abbrev TI : TypeId := 3
abbrev TM : TypeId := 53
theorem law : Keyed Tryd.prog TS := string_keyed Tryd.underlying9
theorem zeroI (w : World) : (zeroValue TI).run Tryd.prog w = .ok (.int .i64 0) w := by kernel_rfl
/-- block b is a map that says D -/
def Mp (w : World) (b : Nat) (D : DataW Unit) : Prop := w.ownsMap Tryd.prog TS (plainElem Tryd.prog TI) b (Maps.size D) D
theorem mp_of {w : World} {b n : Nat} {D : DataW Unit} (h : w.ownsMap Tryd.prog TS (plainElem Tryd.prog TI) b n D) : Mp w b D := by
  obtain ⟨es, clock, hb, F, hs, rfl⟩ := h
  exact ⟨es, clock, hb, F, by simp [Maps.size, length_sorted], rfl⟩
theorem Mp.tidy {w : World} {b : Nat} {D : DataW Unit} (h : Mp w b D) : Tidy D := World.ownsMap.tidy h law
theorem Mp.isMap {w : World} {b : Nat} {D : DataW Unit} (h : Mp w b D) : IsMap D := World.ownsMap.isMap h
theorem Mp.lt {w : World} {b : Nat} {D : DataW Unit} (h : Mp w b D) : b < w.heap.size := World.ownsMap.lt h
theorem Mp.kept {w w' : World} {b : Nat} {D : DataW Unit} {row : Option Nat} (h : Mp w b D) (hg : w.grownBy w' row) (hne : some b ≠ row) : Mp w' b D := World.ownsMap.kept h hg hne
theorem Mp.below {w w' : World} {b : Nat} {D : DataW Unit} (h : Mp w b D) (hb : Below w.heap.size w w') : Mp w' b D := by
  have hl := h.lt
  obtain ⟨es, clock, h1, h2⟩ := h
  exact ⟨es, clock, (hb.block b hl).trans h1, h2⟩
theorem Mp.same {w w' : World} {b : Nat} {D : DataW Unit} (h : Mp w b D) (hb : w'.heap[b]? = w.heap[b]?) : Mp w' b D := by
  obtain ⟨es, clock, h1, h2⟩ := h
  exact ⟨es, clock, hb.trans h1, h2⟩
theorem Mp.made (w : World) : Mp (w.alloc (.map #[] 0)) w.heap.size (.map []) := World.ownsMap_made w Tryd.prog TS _
theorem Mp.obj {w : World} {b : Nat} {D : DataW Unit} (h : Mp w b D) : ∃ es c, w.heap[b]? = some (.map es c) := by
  obtain ⟨es, clock, h1, h2⟩ := h
  exact ⟨es, clock, h1⟩
theorem size_put (D : DataW Unit) (h : Tidy D) (s : ByteArray) (v : Int) : Maps.size (D.put (key s) (num v)) = if (look D s).isSome then Maps.size D else Maps.size D + 1 := by
  rw [look_is]; exact Maps.size_put h _

section
variable (w : World) {ops : Array Oper} {rest : List Oper} {o : Oper} {a : Act} {Q : Exit → Act → World → Prop}
theorem wpList_look (hg : o.guard = none) (m x : Operand) (t : TypeId) (hop : o.op = Op.lookup t m x true) (ht : t = TM) (b : Nat) (D : DataW Unit) (s : ByteArray)
    (hm : a.eval m = .map (some b)) (h : Mp w b D) (hx : a.eval x = .string s) (hs : s.size ≤ maxLen)
    (hK : wpList Tryd.prog ops Q rest (a.put o.dst (.tuple #[.int .i64 ((look D s).getD 0), .bool (look D s).isSome])) w) :
    wpList Tryd.prog ops Q (o :: rest) a w := by
  subst ht
  refine wpList_lookup_own_ok_int w hg m x TM hop TS TI .i64 law Tryd.underlying53 Tryd.underlying3 (zeroI _) b _ D hm h _ (key s) hx (WideMaps.keyOf_string_mk Tryd.underlying9 hs) ?_
  intro c hc _
  have e : (look D s).getD 0 = c := by
    unfold look
    cases hh : Maps.has D (key s) with
    | true => rw [if_pos rfl, Option.getD_some]; unfold num; rw [hc]; rfl
    | false =>
      rw [if_neg (by simp), Option.getD_none]
      rw [Maps.atKey_of_not_has hh] at hc
      have := congrArg unnum hc
      exact this
  rw [e, look_is] at hK
  exact hK
theorem wpList_store (hg : o.guard = none) (m x v : Operand) (t : TypeId) (hop : o.op = Op.mapUpdate t m x v) (ht : t = TM) (b : Nat) (D : DataW Unit) (s : ByteArray) (u : Int)
    (hm : a.eval m = .map (some b)) (h : Mp w b D) (hn : Maps.size D < maxLen) (hx : a.eval x = .string s) (hv : a.eval v = .int .i64 u) (hs : s.size ≤ maxLen) (hu : (Lit.int .i64 u).wf = true)
    (hK : ∀ w', Mp w' b (D.put (key s) (num u)) → w.mapTurned w' b → wpList Tryd.prog ops Q rest (a.put o.dst undef) w') :
    wpList Tryd.prog ops Q (o :: rest) a w := by
  subst ht
  exact wpList_mapUpdate_in w hg m x v TM hop TS TI law Tryd.underlying53 (plainElem Tryd.prog TI) b _ D hm h hn _ _ (key s) hx hv (WideMaps.keyOf_string_mk Tryd.underlying9 hs) (num u) [] (plainElem_int Tryd.underlying3 hu) fun w' h1 h2 => hK w' (mp_of h1) h2
end
end Go.Proofs.YtapfblaejmenlaaDoor.MI
