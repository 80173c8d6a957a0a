/- Plain lemmas on lists of bytes and strings, of no program. -/
import Derived.Lib.Bytealg
import Derived.Lib.Strings
import Derived.Lib.IndexLaws
import Derived.Lib.IndexBytes
import Derived.ProofKit
namespace Go.Proofs.YtiedbnjoomcdbaaDoor.Ba
open Go

theorem ib_le (l : List UInt8) (c : UInt8) : Lib.indexByte l c ≤ (l.length : Int) - 1 := by
  induction l with
  | nil => simp [Lib.indexByte]
  | cons b l ih =>
    unfold Lib.indexByte
    simp only [List.length_cons]
    split
    · omega
    · split
      · omega
      · omega

theorem ib_ge (l : List UInt8) (c : UInt8) : -1 ≤ Lib.indexByte l c := Lib.indexByte_ge l c

theorem ba_ext {s t : ByteArray} (h : s.data.toList = t.data.toList) : s = t := by
  rw [← Lib.mk_data s, ← Lib.mk_data t, h]

theorem data_extract (s : ByteArray) (a b : Nat) : (s.extract a b).data.toList = (s.data.toList.drop a).take (b - a) := Lib.extract_data s a b
theorem size_len (s : ByteArray) : s.size = s.data.toList.length := Lib.size_eq s

theorem ret_str {a b : ByteArray} (h : a.data.toList = b.data.toList) : Ending.returned (.string a) = .returned (.string b) := by rw [ba_ext h]
theorem ret_int {k : IntKind} {a b : Int} (h : a = b) : Ending.returned (.int k a) = .returned (.int k b) := by rw [h]
theorem ret_bool {a b : Bool} (h : a = b) : Ending.returned (.bool a) = .returned (.bool b) := by rw [h]

/-- the string of a list of bytes -/
def S (l : List UInt8) : ByteArray := ⟨l.toArray⟩
theorem S_data (s : ByteArray) : S s.data.toList = s := Lib.mk_data s
@[simp] theorem data_S (l : List UInt8) : (S l).data.toList = l := rfl
@[simp] theorem size_S (l : List UInt8) : (S l).size = l.length := rfl
theorem S_inj {a b : List UInt8} (h : S a = S b) : a = b := by
  have := congrArg (fun s : ByteArray => s.data.toList) h
  exact this
theorem get_data (s : ByteArray) (i : Nat) (h : i < s.size) : s[i] = s.data.toList[i]'(by rw [← size_len]; exact h) := rfl
theorem data_get? (s : ByteArray) (i : Nat) (h : i < s.size) : s.data.toList[i]? = some s[i] := Lib.data_getElem? s i h
theorem drop_ext (s : ByteArray) (k : Nat) : (s.extract k s.size).data.toList = s.data.toList.drop k := Lib.extract_to_end s k
theorem drop_cons (s : ByteArray) (i : Nat) (h : i < s.size) : s.data.toList.drop i = s[i] :: s.data.toList.drop (i + 1) := by
  have h' : i < s.data.toList.length := by rw [← size_len]; exact h
  rw [List.drop_eq_getElem_cons h']; rfl
theorem cons1 (s : ByteArray) (h : 0 < s.size) : s.data.toList = s[0] :: (s.extract 1 s.size).data.toList := by
  rw [drop_ext, ← drop_cons s 0 h]; rfl
theorem cons2 (s : ByteArray) (h : 1 < s.size) : s.data.toList = s[0] :: s[1] :: (s.extract 2 s.size).data.toList := by
  rw [drop_ext, ← drop_cons s 1 h, ← drop_cons s 0 (by omega)]; rfl
theorem cons3 (s : ByteArray) (h : 2 < s.size) : s.data.toList = s[0] :: s[1] :: s[2] :: (s.extract 3 s.size).data.toList := by
  rw [drop_ext, ← drop_cons s 2 h, ← drop_cons s 1 (by omega), ← drop_cons s 0 (by omega)]; rfl
theorem take_snoc (s : ByteArray) (k : Nat) (h : k < s.size) : s.data.toList.take (k + 1) = s.data.toList.take k ++ [s[k]] := by
  rw [List.take_succ_eq_append_getElem (by rw [← size_len]; exact h)]; rfl
theorem nil0 (s : ByteArray) (h : ¬ 0 < s.size) : s.data.toList = [] := by
  cases hd : s.data.toList with
  | nil => rfl
  | cons a l => exfalso; apply h; rw [size_len, hd]; simp
theorem nonempty (s : ByteArray) (h : 0 < s.size) : (!s.toList.isEmpty) = true := by
  rw [Lib.toList_data, cons1 s h]; rfl
theorem empty (s : ByteArray) (h : ¬ 0 < s.size) : (!s.toList.isEmpty) = false := by
  rw [Lib.toList_data, nil0 s h]; rfl
theorem nonempty' (s : ByteArray) (h : 0 < s.size) : s.toList.isEmpty = false := by
  have := nonempty s h; simpa using this
theorem empty' (s : ByteArray) (h : ¬ 0 < s.size) : s.toList.isEmpty = true := by
  have := empty s h; simpa using this
theorem ext_size (s : ByteArray) (a b : Nat) : (s.extract a b).size = min b s.size - a := ByteArray.size_extract ..
theorem tail_size (s : ByteArray) (k : Nat) : (s.extract k s.size).size = s.size - k := by rw [ext_size, Nat.min_self]
theorem u8_eq {a b : UInt8} (h : a.toNat = b.toNat) : a = b := UInt8.toNat_inj.mp h
theorem u8_le {a b : UInt8} : a ≤ b ↔ a.toNat ≤ b.toNat := UInt8.le_iff_toNat_le
def strLen : Value → Nat
  | .string s => s.size
  | _ => 0
end Go.Proofs.YtiedbnjoomcdbaaDoor.Ba
