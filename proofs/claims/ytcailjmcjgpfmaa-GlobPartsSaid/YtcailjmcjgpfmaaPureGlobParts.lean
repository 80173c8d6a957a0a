/- A set and its negation part all bytes in two: for every set without ']', '!', '^', and every byte. -/
import Derived.Test.YtcailjmcjgpfmaaPGx12
import Derived.Test.YtcailjmcjgpfmaaGlobA
set_option linter.unusedVariables false
set_option linter.unusedSimpArgs false
namespace Go.Proofs.Ytcailjmcjgpfmaa.GP
open Go.RowKit Ba

def keep (c : UInt8) : Bool := !(c == 93 || c == 33 || c == 94)
theorem keep_no {c : UInt8} (h : keep c = true) : c ≠ 93 ∧ c ≠ 33 ∧ c ≠ 94 := by
  refine ⟨?_, ?_, ?_⟩ <;> (rintro rfl; revert h; decide)
theorem idx93 : ∀ l : List UInt8, (∀ x ∈ l, x ≠ 93) → Lib.indexByte (l ++ [93]) 93 = l.length
  | [], _ => by decide
  | a :: l, h => by
    have ih := idx93 l fun x hx => h x (List.mem_cons_of_mem _ hx)
    have ha := h a (List.mem_cons_self ..)
    rw [List.cons_append]
    unfold Lib.indexByte
    rw [if_neg (by simpa using ha), ih, if_neg (by intro h; rw [beq_iff_eq] at h; omega), List.length_cons]
    omega
theorem neg_keep {c : UInt8} (h : keep c = true) : neg c = false := by
  obtain ⟨_, h2, h3⟩ := keep_no h
  simp [neg, h2, h3]

theorem brk_one (a : UInt8) (l : List UInt8) (h : ∀ x ∈ a :: l, keep x = true) : brk (91 :: (a :: l) ++ [93]) = l.length + 3 := by
  have ha := neg_keep (h a (List.mem_cons_self ..))
  have hi := idx93 l fun x hx => (keep_no (h x (List.mem_cons_of_mem _ hx))).1
  unfold brk
  have hs : (if 1 < (91 :: (a :: l) ++ [93] : List UInt8).length ∧ neg ((91 :: (a :: l) ++ [93] : List UInt8).getD 1 0) = true then 3 else 2) = 2 := by
    rw [if_neg]
    rintro ⟨_, h2⟩
    have e : (91 :: (a :: l) ++ [93] : List UInt8).getD 1 0 = a := rfl
    rw [e, ha] at h2; exact absurd h2 (by decide)
  have hd : (91 :: (a :: l) ++ [93] : List UInt8).drop 2 = l ++ [93] := rfl
  simp only [hs, hd, hi]
  rw [if_neg (by simp), if_neg (by omega)]
  omega
theorem brk_neg (n a : UInt8) (l : List UInt8) (hn : neg n = true) (h : ∀ x ∈ a :: l, keep x = true) : brk (91 :: n :: (a :: l) ++ [93]) = l.length + 4 := by
  have hi := idx93 l fun x hx => (keep_no (h x (List.mem_cons_of_mem _ hx))).1
  unfold brk
  have hs : (if 1 < (91 :: n :: (a :: l) ++ [93] : List UInt8).length ∧ neg ((91 :: n :: (a :: l) ++ [93] : List UInt8).getD 1 0) = true then 3 else 2) = 3 := by
    rw [if_pos]
    exact ⟨by simp, hn⟩
  have hd : (91 :: n :: (a :: l) ++ [93] : List UInt8).drop 3 = l ++ [93] := rfl
  simp only [hs, hd, hi]
  rw [if_neg (by simp), if_neg (by omega)]
  omega
theorem M_set (p : List UInt8) (c : UInt8) (h : 0 < p.length + 1) (hb : brk (91 :: p) = p.length + 1) : M (91 :: p) [c] = has (91 :: p) c := by
  rw [M_one 91 p (by decide)]
  have hk : oneK (91 :: p) = p.length + 1 := by simp [oneK, hb]
  have ho : oneB (91 :: p) c = has (91 :: p) c := by
    have ht : (91 :: p).take (p.length + 1) = 91 :: p := List.take_of_length_le (by simp)
    simp only [oneB, List.head?_cons, hb]
    rw [if_neg (by decide), if_neg (by decide), if_pos trivial, if_pos (by omega), ht]
  rw [hk, ho, List.drop_of_length_le (by simp), M_nil]; simp
theorem has_one (a : UInt8) (l : List UInt8) (c : UInt8) (h : keep a = true) : has (91 :: (a :: l) ++ [93]) c = among (a :: l) c := by
  have e : ((91 :: (a :: l) ++ [93] : List UInt8).drop 1).take ((91 :: (a :: l) ++ [93] : List UInt8).length - 2) = a :: l := by
    have : (91 :: (a :: l) ++ [93] : List UInt8).length - 2 = (a :: l).length := by simp
    rw [this]
    exact List.take_left
  unfold has
  simp only [e]
  rw [neg_keep h]; rfl
theorem has_neg (n a : UInt8) (l : List UInt8) (c : UInt8) (hn : neg n = true) : has (91 :: n :: (a :: l) ++ [93]) c = !among (a :: l) c := by
  have e : ((91 :: n :: (a :: l) ++ [93] : List UInt8).drop 1).take ((91 :: n :: (a :: l) ++ [93] : List UInt8).length - 2) = n :: a :: l := by
    have : (91 :: n :: (a :: l) ++ [93] : List UInt8).length - 2 = (n :: a :: l).length := by simp
    rw [this]
    exact List.take_left
  unfold has
  simp only [e]
  rw [hn]; rfl
theorem set_one (b : List UInt8) (hb : b ≠ []) (h : ∀ x ∈ b, keep x = true) (c : UInt8) : M (91 :: b ++ [93]) [c] = among b c := by
  cases b with
  | nil => exact absurd rfl hb
  | cons a l =>
    rw [show 91 :: (a :: l) ++ [93] = 91 :: ((a :: l) ++ [93]) from rfl, M_set _ c (by simp) (by have := brk_one a l h; simpa using this), show 91 :: ((a :: l) ++ [93]) = 91 :: (a :: l) ++ [93] from rfl, has_one a l c (h a (List.mem_cons_self ..))]
theorem set_neg (n : UInt8) (hn : neg n = true) (b : List UInt8) (hb : b ≠ []) (h : ∀ x ∈ b, keep x = true) (c : UInt8) : M (91 :: n :: b ++ [93]) [c] = !among b c := by
  cases b with
  | nil => exact absurd rfl hb
  | cons a l =>
    rw [show 91 :: n :: (a :: l) ++ [93] = 91 :: (n :: (a :: l) ++ [93]) from rfl, M_set _ c (by simp) (by have := brk_neg n a l hn h; simpa using this), show 91 :: (n :: (a :: l) ++ [93]) = 91 :: n :: (a :: l) ++ [93] from rfl, has_neg n a l c hn]
end Go.Proofs.Ytcailjmcjgpfmaa.GP
namespace Go.Proofs.Ytcailjmcjgpfmaa.Pure
open Go.RowKit Go.Proofs.Ytcailjmcjgpfmaa.PG Go.Proofs.YtcailjmcjgpfmaaW.PrintWords Go.Proofs.YtcailjmcjgpfmaaW.PrintLast Go.Proofs.Ytcailjmcjgpfmaa.Ba

def pnums (l : List UInt8) : List Int := l.map fun c => ((c.toNat : Nat) : Int)
theorem strOf_pnums (l : List UInt8) : strOfNums (pnums l) = S l := by
  apply ba_ext
  rw [data_S]
  unfold strOfNums pnums
  simp [List.map_map, Function.comp_def]
theorem pw64 {x : Int} (h : 0 ≤ x) (h' : x ≤ 1000000000000) : wrap64 (x + 1) = x + 1 := by unfold wrap64; omega
theorem ch_iff (c : UInt8) (k : Nat) (hk : k < 256) : ((c.toNat : Nat) : Int) = (k : Int) ↔ c = UInt8.ofNat k := by
  constructor
  · intro h
    have : c.toNat = k := by omega
    rw [← this]; simp
  · rintro rfl
    simp; omega

theorem parts_l0 (p : ByteArray) (c : UInt8) (hp : p.size ≤ 500) :
    ∀ (n i : Nat), i ≤ p.size → p.size - i < n → bobstaylaw01_GlobParts.l0 n p (c.toNat : Int) (pnums ((p.data.toList.take i).filter GP.keep)) (i : Int) = some true
  | 0, _, _, h => by omega
  | n + 1, i, hi, hn => by
    rw [bobstaylaw01_GlobParts.l0]
    by_cases hlt : i < p.size
    · have ih := parts_l0 p c hp n (i + 1) (by omega) (by omega)
      rw [take_snoc p i hlt, List.filter_append] at ih
      rw [if_pos (by omega), if_pos (by omega), bt_get p i hlt, pw64 (by omega) (by omega)]
      rw [show ((i + 1 : Nat) : Int) = (i : Int) + 1 by omega] at ih
      have hl : (pnums ((p.data.toList.take i).filter GP.keep)).length ≤ 500 := by
        have h1 := List.length_filter_le GP.keep (p.data.toList.take i)
        have h2 : (p.data.toList.take i).length ≤ i := List.length_take_le _ _
        unfold pnums; rw [List.length_map]; omega
      generalize p[i] = d at ih ⊢
      by_cases h1 : d = 93
      · rw [if_pos (show (d.toNat : Int) = 93 from (ch_iff d 93 (by decide)).mpr h1)]
        subst h1; rw [show ([93] : List UInt8).filter GP.keep = [] by decide, List.append_nil] at ih; exact ih
      · rw [if_neg (show ¬ (d.toNat : Int) = 93 from fun h => h1 ((ch_iff d 93 (by decide)).mp h))]
        by_cases h2 : d = 33
        · rw [if_pos (show (d.toNat : Int) = 33 from (ch_iff d 33 (by decide)).mpr h2)]
          subst h2; rw [show ([33] : List UInt8).filter GP.keep = [] by decide, List.append_nil] at ih; exact ih
        · rw [if_neg (show ¬ (d.toNat : Int) = 33 from fun h => h2 ((ch_iff d 33 (by decide)).mp h))]
          by_cases h3 : d = 94
          · rw [if_pos (show (d.toNat : Int) = 94 from (ch_iff d 94 (by decide)).mpr h3)]
            subst h3; rw [show ([94] : List UInt8).filter GP.keep = [] by decide, List.append_nil] at ih; exact ih
          · rw [if_neg (show ¬ (d.toNat : Int) = 94 from fun h => h3 ((ch_iff d 94 (by decide)).mp h)), if_pos (by omega)]
            have hk : GP.keep d = true := by simp [GP.keep, h1, h2, h3]
            rw [show ([d] : List UInt8).filter GP.keep = [d] by simp [List.filter_cons, hk]] at ih
            rw [← ih]; congr 1; simp [pnums]
    · rw [if_neg (by omega), List.take_of_length_le (by rw [← size_len]; omega)]
      obtain ⟨b, hb⟩ : ∃ b, p.data.toList.filter GP.keep = b := ⟨_, rfl⟩
      have hbl : b.length ≤ 500 := by
        rw [← hb]; refine Nat.le_trans (List.length_filter_le _ _) ?_; rw [← size_len]; exact hp
      have hall : ∀ x ∈ b, GP.keep x = true := by
        intro x hx; rw [← hb] at hx; exact (List.mem_filter.mp hx).2
      rw [hb]
      by_cases h0 : b = []
      · subst h0; rw [if_pos (show ((pnums []).length : Int) = 0 from rfl), alive]; rfl
      · have hlen : 0 < b.length := List.length_pos_iff.mpr h0
        rw [if_neg (by unfold pnums; rw [List.length_map]; omega), Option.bind_some, strOf_pnums]
        have hsz : (S b).size = b.length := size_S b
        have e1 : ∀ (q : List UInt8), q.length ≤ 2 → ((⟨q.toArray⟩ : ByteArray) ++ S b).size = q.length + b.length := by
          intro q _; rw [ByteArray.size_append, hsz]; rfl
        have e2 : ∀ (q : List UInt8), ((((⟨q.toArray⟩ : ByteArray) ++ S b) ++ (⟨#[93]⟩ : ByteArray))).data.toList = q ++ b ++ [93] := by
          intro q; rw [data_app, data_app, data_S]
        have e3 : (strOfNums [(c.toNat : Int)]).data.toList = [c] := by
          have := strOf_pnums [c]
          rw [show strOfNums [(c.toNat : Int)] = S [c] from this, data_S]
        have e4 : (strOfNums [(c.toNat : Int)]).size = 1 := by rw [size_len, e3]; rfl
        have m1 : glob_Match.f (((⟨#[91]⟩ : ByteArray) ++ S b) ++ (⟨#[93]⟩ : ByteArray)) (strOfNums [(c.toNat : Int)]) = some (GP.among b c) := by
          have := e2 [91]
          rw [gm _ _ (by rw [size_len, this]; simp; omega) (by omega), this, e3]
          exact congrArg some (GP.set_one b h0 hall c)
        have m2 : glob_Match.f (((⟨#[91, 33]⟩ : ByteArray) ++ S b) ++ (⟨#[93]⟩ : ByteArray)) (strOfNums [(c.toNat : Int)]) = some (!GP.among b c) := by
          have := e2 [91, 33]
          rw [gm _ _ (by rw [size_len, this]; simp; omega) (by omega), this, e3]
          exact congrArg some (GP.set_neg 33 (by decide) b h0 hall c)
        have m3 : glob_Match.f (((⟨#[91, 94]⟩ : ByteArray) ++ S b) ++ (⟨#[93]⟩ : ByteArray)) (strOfNums [(c.toNat : Int)]) = some (!GP.among b c) := by
          have := e2 [91, 94]
          rw [gm _ _ (by rw [size_len, this]; simp; omega) (by omega), this, e3]
          exact congrArg some (GP.set_neg 94 (by decide) b h0 hall c)
        have s1 := e1 [91] (by decide)
        have s2 := e1 [91, 33] (by decide)
        have s3 := e1 [91, 94] (by decide)
        simp only [List.length_cons, List.length_nil] at s1 s2 s3
        rw [if_pos (by omega), if_pos (by rw [s1]; omega), m1, Option.bind_some, if_pos (by omega), if_pos (by rw [s2]; omega), m2, Option.bind_some, if_pos (by rw [s3]; omega), m3, Option.bind_some, if_pos (by cases GP.among b c <;> rfl), if_pos (by cases GP.among b c <;> rfl), alive]; rfl

theorem GlobParts : bobstaylaw01_GlobParts.Pure := by
  intro p a hp ha
  have hw : 0 ≤ a ∧ a < 256 := by
    have := ha
    simp [Lit.wf, show IntKind.min .u8 = 0 from rfl, show IntKind.max .u8 = 255 from rfl] at this
    omega
  obtain ⟨c, rfl⟩ : ∃ c : UInt8, a = (c.toNat : Int) := ⟨UInt8.ofNat a.toNat, by simp; omega⟩
  refine ⟨600, ?_⟩
  unfold bobstaylaw01_GlobParts.f
  by_cases h : (p.size : Int) > 500
  · rw [if_pos h, alive]; rfl
  · rw [if_neg h]
    have := parts_l0 p c (by omega) 600 0 (by omega) (by omega)
    simpa [pnums] using this
end Go.Proofs.Ytcailjmcjgpfmaa.Pure
