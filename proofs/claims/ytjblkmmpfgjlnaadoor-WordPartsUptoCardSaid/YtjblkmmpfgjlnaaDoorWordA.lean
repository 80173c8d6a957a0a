/- What the printed pieces that all laws of words use answer. -/
import Derived.Test.YtjblkmmpfgjlnaaDoorPQx10
import Derived.Test.YtjblkmmpfgjlnaaDoorPQx12
set_option linter.unusedVariables false
set_option linter.unusedSimpArgs false
namespace Go.Proofs.YtjblkmmpfgjlnaaDoor.Pure
open Go.RowKit Go.Proofs.YtjblkmmpfgjlnaaDoor.PQ Go.Proofs.YtjblkmmpfgjlnaaDoorW.PrintWords Go.Proofs.YtjblkmmpfgjlnaaDoorW.PrintLast Go.Proofs.YtjblkmmpfgjlnaaDoor.Ba

theorem bt_get (s : ByteArray) (i : Nat) (h : i < s.size) : bt s i = ((s[i]).toNat : Int) := by
  rw [← bt_at s i h]; rfl
theorem w64 {x : Int} (h : 0 ≤ x) (h' : x ≤ 1000000000000) : wrap64 (x + 1) = x + 1 := by unfold wrap64; omega
/-- the bytes of a text, as numbers -/
def pnums (l : List UInt8) : List Int := l.map fun c => ((c.toNat : Nat) : Int)
theorem strOf_pnums (l : List UInt8) : strOfNums (pnums l) = S l := by
  apply ba_ext
  rw [data_S]
  unfold strOfNums pnums
  simp [List.map_map, Function.comp_def]
theorem u8_iff (c : UInt8) (k : Nat) (hk : k < 256) : ((c.toNat : Nat) : Int) = (k : Int) ↔ c = UInt8.ofNat k := by
  constructor
  · intro h
    have : c.toNat = k := by omega
    rw [← this]; simp
  · rintro rfl
    simp; omega

theorem al_split : word_Split.f 40 ⟨#[97, 32, 39, 98, 32, 99, 39, 92, 32, 100]⟩ = some ([⟨#[97]⟩, ⟨#[39, 98, 32, 99, 39, 92, 32, 100]⟩], 0) := by decide +kernel
theorem al_mean : word_Mean.f ⟨#[39, 98, 32, 99, 39, 92, 32, 100]⟩ = some (⟨#[98, 32, 99, 32, 100]⟩, 0) := by
  have e1 : WP.meanL [39, 98, 32, 99, 39, 92, 32, 100] = some [98, 32, 99, 32, 100] := by
    rw [WP.mean_yes _ 5 [98, 32, 99] (by decide +kernel), show List.drop 5 [39, 98, 32, 99, 39, 92, 32, 100] = ([92, 32, 100] : List UInt8) from rfl,
      WP.mean_yes _ 2 [32] (by decide +kernel), show List.drop 2 [92, 32, 100] = ([100] : List UInt8) from rfl,
      WP.mean_yes _ 1 [100] (by decide +kernel), show List.drop 1 [100] = ([] : List UInt8) from rfl, WP.mean_nil]; rfl
  unfold word_Mean.f
  rw [if_pos (by decide), show (⟨#[39, 98, 32, 99, 39, 92, 32, 100]⟩ : ByteArray).data.toList = [39, 98, 32, 99, 39, 92, 32, 100] from rfl, e1]; rfl
theorem al_quote : word_Quote.f 40 ⟨#[105, 116, 39, 115]⟩ = some ⟨#[39, 105, 116, 39, 92, 39, 39, 115, 39]⟩ := by decide +kernel
theorem al_join : word_Join.f [⟨#[97]⟩, ⟨#[]⟩, ⟨#[98]⟩] = some ⟨#[97, 32, 98]⟩ := by decide +kernel
theorem alive40 : bobstaylaw04_alive.f 40 = some true := by
  unfold bobstaylaw04_alive.f
  rw [al_split, Option.bind_some, al_mean, Option.bind_some, if_pos rfl, if_pos rfl, if_pos (by decide), if_pos (by decide +kernel), al_quote, Option.bind_some, if_pos (by decide +kernel), al_join, Option.bind_some]
  exact congrArg some (by decide +kernel)
theorem alive : ∀ k : Nat, bobstaylaw04_alive.f (40 + k) = some true
  | 0 => alive40
  | k + 1 => bobstaylaw04_alive.mono (40 + k) true (alive k)
end Go.Proofs.YtjblkmmpfgjlnaaDoor.Pure
