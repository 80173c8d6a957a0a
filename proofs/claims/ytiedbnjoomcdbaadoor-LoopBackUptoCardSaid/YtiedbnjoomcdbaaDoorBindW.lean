/- The walk of loop.bind. -/
import Derived.Test.YtiedbnjoomcdbaaDoorPOx0
import Derived.Test.YtiedbnjoomcdbaaDoorCut
import Derived.Test.YtiedbnjoomcdbaaDoorBld2
set_option linter.unusedVariables false
set_option linter.unusedSimpArgs false
namespace Go.Proofs.YtiedbnjoomcdbaaDoor.PO
open Go.RowKit Go.Proofs.YtiedbnjoomcdbaaDoorW.PrintWords Go.Proofs.YtiedbnjoomcdbaaDoorW.PrintLast Go.Proofs.YtiedbnjoomcdbaaDoorW.PrintMore
theorem expand_whole.mono_l : ∀ k, (∀ y0, LeO (expand_whole.f k y0) (expand_whole.f (k + 1) y0)) ∧ (∀ y0 y1 y2 y3 y4, LeO (expand_whole.l0 k y0 y1 y2 y3 y4) (expand_whole.l0 (k + 1) y0 y1 y2 y3 y4))
  | 0 => ⟨fun _ r h => by simp [expand_whole.f] at h, fun _ _ _ _ _ r h => by simp [expand_whole.l0] at h⟩
  | k + 1 => by
    obtain ⟨ih0, ih1⟩ := expand_whole.mono_l k
    refine ⟨?_, ?_⟩
    · intro y0
      unfold expand_whole.f
      repeat' first
      | (with_reducible exact ih0 _)
      | (with_reducible exact ih1 _ _ _ _ _)
      | (with_reducible exact LeO.refl _)
      | (with_reducible exact LeO.none _)
      | (with_reducible refine LeO.ite ?_ ?_)
      | (with_reducible refine LeO.bind ?_ (fun _ => ?_))
      | exact ih0 _
      | exact ih1 _ _ _ _ _
      | exact LeO.none _
      | refine LeO.ite ?_ ?_
      | refine LeO.bind ?_ (fun _ => ?_)
    · intro y0 y1 y2 y3 y4
      unfold expand_whole.l0
      repeat' first
      | (with_reducible exact ih0 _)
      | (with_reducible exact ih1 _ _ _ _ _)
      | (with_reducible exact LeO.refl _)
      | (with_reducible exact LeO.none _)
      | (with_reducible refine LeO.ite ?_ ?_)
      | (with_reducible refine LeO.bind ?_ (fun _ => ?_))
      | exact ih0 _
      | exact ih1 _ _ _ _ _
      | exact LeO.none _
      | refine LeO.ite ?_ ?_
      | refine LeO.bind ?_ (fun _ => ?_)
theorem expand_whole.mono : ∀ a0 k, LeO (expand_whole.f k a0) (expand_whole.f (k + 1) a0) := by
  intro a0 k
  obtain ⟨ih0, ih1⟩ := expand_whole.mono_l k
  exact ih0 a0
theorem expand_Use.mono : ∀ a0 k, LeO (expand_Use.f k a0) (expand_Use.f (k + 1) a0) := by
  intro a0 k
  unfold expand_Use.f
  repeat' first
      | (with_reducible exact expand_whole.mono _ _)
      | (with_reducible exact LeO.refl _)
      | (with_reducible exact LeO.none _)
      | (with_reducible refine LeO.ite ?_ ?_)
      | (with_reducible refine LeO.bind ?_ (fun _ => ?_))
      | exact expand_whole.mono _ _
      | exact LeO.none _
      | refine LeO.ite ?_ ?_
      | refine LeO.bind ?_ (fun _ => ?_)
end Go.Proofs.YtiedbnjoomcdbaaDoor.PO
namespace Go.Proofs.YtiedbnjoomcdbaaDoor
open Go.RowKit Ba Go.Proofs.YtiedbnjoomcdbaaDoorW.PrintWords Go.Proofs.YtiedbnjoomcdbaaDoorW.PrintLast

def isUse (u name : List UInt8) : Bool := u == [36, 123] ++ name ++ [125] || (u == [36, 40] ++ name ++ [41] || (decide (name.length = 1) && u == [36] ++ name))
def bindA : Nat → List UInt8 → List UInt8 → List UInt8 → List UInt8 → Option (List UInt8)
  | 0, _, _, _, _ => none
  | k + 1, s, name, value, acc =>
    if acc.length + s.length ≤ 100000000000 then
      (if s.contains 36 = true then
        ((PO.expand_Use.f k (S (s.dropWhile (· != 36)))).bind fun m =>
          (if 0 ≤ m then
            (if m.toNat ≤ (s.dropWhile (· != 36)).length then
              (if (s.dropWhile (· != 36)).take m.toNat = [36, 36] then bindA k ((s.dropWhile (· != 36)).drop 2) name value (acc ++ s.takeWhile (· != 36) ++ [36, 36])
               else if isUse ((s.dropWhile (· != 36)).take m.toNat) name = true then
                 ((PO.expand_Quote.f (S value)).bind fun q => if q.size ≤ 1000000000 then bindA k ((s.dropWhile (· != 36)).drop m.toNat) name value (acc ++ s.takeWhile (· != 36) ++ q.data.toList) else none)
               else bindA k ((s.dropWhile (· != 36)).drop 1) name value (acc ++ s.takeWhile (· != 36) ++ [36]))
             else none)
           else none))
       else some (acc ++ s))
    else none
theorem bindA_mono : ∀ k s name value acc r, bindA k s name value acc = some r → bindA (k + 1) s name value acc = some r
  | 0, _, _, _, _, _, h => by simp [bindA] at h
  | k + 1, s, name, value, acc, r, h => by
    unfold bindA at h ⊢
    split at h
    · rename_i h1
      rw [if_pos h1]
      split at h
      · rename_i h2
        rw [if_pos h2]
        obtain ⟨m, hm, h⟩ := Option.bind_eq_some_iff.1 h
        rw [PO.expand_Use.mono _ _ _ hm]
        simp only [Option.bind_some]
        split at h
        · rename_i h3
          rw [if_pos h3]
          split at h
          · rename_i h4
            rw [if_pos h4]
            split at h
            · rename_i h5
              rw [if_pos h5]
              exact bindA_mono k _ _ _ _ _ h
            · rename_i h5
              rw [if_neg h5]
              split at h
              · rename_i h6
                rw [if_pos h6]
                obtain ⟨q, hq, h⟩ := Option.bind_eq_some_iff.1 h
                rw [hq]
                simp only [Option.bind_some]
                split at h
                · rename_i h7
                  rw [if_pos h7]
                  exact bindA_mono k _ _ _ _ _ h
                · cases h
              · rename_i h6
                rw [if_neg h6]
                exact bindA_mono k _ _ _ _ _ h
          · cases h
        · cases h
      · rename_i h2
        rw [if_neg h2]
        exact h
    · cases h
def isUseB (U name : ByteArray) : Bool := (U.toList == ((⟨#[36, 123]⟩ : ByteArray) ++ name ++ ⟨#[125]⟩).toList) || ((U.toList == ((⟨#[36, 40]⟩ : ByteArray) ++ name ++ ⟨#[41]⟩).toList) || (decide ((name.size : Int) = 1) && (U.toList == ((⟨#[36]⟩ : ByteArray) ++ name).toList)))
theorem cat_list (a b : ByteArray) : (a ++ b).toList = a.toList ++ b.toList := by
  rw [Lib.toList_data, Lib.toList_data, Lib.toList_data, ByteArray.data_append, Array.toList_append]
theorem isUse_eq (U name : ByteArray) : isUse U.toList name.data.toList = isUseB U name := by
  unfold isUse isUseB
  simp only [cat_list]
  have e1 : decide ((name.size : Int) = 1) = decide (name.data.toList.length = 1) := by
    rw [size_len]
    exact decide_eq_decide.2 ⟨fun h => by omega, fun h => by omega⟩
  rw [e1]
  simp only [Lib.toList_data]
theorem isUseB_ne (U name : ByteArray) (h : isUseB U name = true) : U.toList.isEmpty = false := by
  cases hU : U.toList with
  | nil =>
    unfold isUseB at h
    rw [hU] at h
    simp only [cat_list] at h
    simp [Lib.toList_data] at h
  | cons a l => rfl
theorem isUseB_cases (U name : ByteArray) (h : isUseB U name = true) : (U.toList == ((⟨#[36, 123]⟩ : ByteArray) ++ name ++ ⟨#[125]⟩).toList) = true ∨ ((U.toList == ((⟨#[36, 123]⟩ : ByteArray) ++ name ++ ⟨#[125]⟩).toList) = false ∧ (U.toList == ((⟨#[36, 40]⟩ : ByteArray) ++ name ++ ⟨#[41]⟩).toList) = true) ∨
    ((U.toList == ((⟨#[36, 123]⟩ : ByteArray) ++ name ++ ⟨#[125]⟩).toList) = false ∧ (U.toList == ((⟨#[36, 40]⟩ : ByteArray) ++ name ++ ⟨#[41]⟩).toList) = false ∧ (name.size : Int) = 1 ∧ (U.toList == ((⟨#[36]⟩ : ByteArray) ++ name).toList) = true) := by
  unfold isUseB at h
  generalize (U.toList == ((⟨#[36, 123]⟩ : ByteArray) ++ name ++ ⟨#[125]⟩).toList) = a at *
  generalize (U.toList == ((⟨#[36, 40]⟩ : ByteArray) ++ name ++ ⟨#[41]⟩).toList) = b at *
  generalize (U.toList == ((⟨#[36]⟩ : ByteArray) ++ name).toList) = c at *
  by_cases d : (name.size : Int) = 1
  all_goals simp only [d, decide_true, decide_false, Bool.true_and, Bool.false_and, Bool.or_false] at h ⊢
  all_goals revert h
  all_goals cases a <;> cases b <;> cases c <;> simp
theorem isUseB_not (U name : ByteArray) (h : isUseB U name = false) : (U.toList == ((⟨#[36, 123]⟩ : ByteArray) ++ name ++ ⟨#[125]⟩).toList) = false ∧ (U.toList == ((⟨#[36, 40]⟩ : ByteArray) ++ name ++ ⟨#[41]⟩).toList) = false ∧ (¬ (name.size : Int) = 1 ∨ ((name.size : Int) = 1 ∧ (U.toList == ((⟨#[36]⟩ : ByteArray) ++ name).toList) = false)) := by
  unfold isUseB at h
  generalize (U.toList == ((⟨#[36, 123]⟩ : ByteArray) ++ name ++ ⟨#[125]⟩).toList) = a at *
  generalize (U.toList == ((⟨#[36, 40]⟩ : ByteArray) ++ name ++ ⟨#[41]⟩).toList) = b at *
  generalize (U.toList == ((⟨#[36]⟩ : ByteArray) ++ name).toList) = c at *
  by_cases d : (name.size : Int) = 1
  all_goals simp only [d, decide_true, decide_false, Bool.true_and, Bool.false_and, Bool.or_false] at h ⊢
  all_goals revert h
  all_goals cases a <;> cases b <;> cases c <;> simp
theorem split36 : ∀ s : List UInt8, (s.contains 36 = false ∧ ∀ d ∈ s, d ≠ 36) ∨ ∃ t, s.contains 36 = true ∧ s = s.takeWhile (· != 36) ++ 36 :: t ∧ s.dropWhile (· != 36) = 36 :: t ∧ ∀ d ∈ s.takeWhile (· != 36), d ≠ 36
  | [] => .inl ⟨rfl, by simp⟩
  | c :: s => by
    by_cases h : c = 36
    · subst h
      exact .inr ⟨s, by simp, by simp [List.takeWhile_cons], by simp [List.dropWhile_cons], by simp [List.takeWhile_cons]⟩
    · have hb : (c != 36) = true := by simp [h]
      have hc : (36 == c) = false := by simp; exact fun e => h e.symm
      rcases split36 s with ⟨h1, h2⟩ | ⟨t, h1, h2, h3, h4⟩
      · refine .inl ⟨by rw [List.contains_cons, hc, h1]; rfl, fun d hd => ?_⟩
        rcases List.mem_cons.1 hd with e | e
        · rw [e]; exact h
        · exact h2 d e
      · refine .inr ⟨t, by rw [List.contains_cons, h1]; simp, ?_, ?_, ?_⟩
        · rw [List.takeWhile_cons, if_pos hb, List.cons_append, ← h2]
        · rw [List.dropWhile_cons, if_pos hb, h3]
        · intro d hd
          rw [List.takeWhile_cons, if_pos hb] at hd
          rcases List.mem_cons.1 hd with e | e
          · rw [e]; exact h
          · exact h4 d e

set_option maxHeartbeats 8000000 in
set_option maxRecDepth 1000000 in
theorem bindW (k0 : Nat) (s name value : ByteArray) (res : List UInt8) (w : World) (hn : name.size ≤ 100000000) (hv : value.size ≤ 100000000) (h : bindA k0 s.data.toList name.data.toList value.data.toList [] = some res) :
    Calls Tryd.prog 25 #[.string s, .string name, .string value] w fun e w' => e = .returned (.string (S res)) ∧ Below w.heap.size w w' := by
  obtain ⟨B, hB⟩ : ∃ B, w.heap.size = B := ⟨_, rfl⟩
  have HH := Lib.hid h
  clear h
  go_enter Tryd.func25, Tryd.ntmps25
  go_wp2
  go_loopg [0] k0 (fun g v0 wr => ∃ (t acc : List UInt8), v0 = .string (S t) ∧ Hid (bindA g t name.data.toList value.data.toList acc = some res) ∧ Bld B B acc wr ∧ Below B w wr ∧ B ≤ wr.heap.size)
  case atStart =>
    subst hB
    exact ⟨s.data.toList, [], by rw [S_data], HH, Bld.fresh w, (Below.refl _ _).alloc (Nat.le_refl _) _, by simp⟩
  case round =>
    obtain ⟨t, acc, rfl, HQ, hbld, hbel, hsz⟩ := hrel
    have hq := HQ.out
    clear HQ
    obtain ⟨g, rfl⟩ : ∃ g, gk = g + 1 := by
      cases gk with
      | zero => simp [bindA] at hq
      | succ g => exact ⟨g, rfl⟩
    unfold bindA at hq
    split at hq
    · rename_i hbig
      rcases split36 t with ⟨h1, h2⟩ | ⟨q, h1, h2, h3, h4⟩
      · rw [if_neg (by rw [h1]; simp)] at hq
        have hC := fun w => cutNone (S t) 36 w (by rw [data_S]; exact h2)
        have HQ := Lib.hid (Option.some.inj hq)
        clear hq h1 h2
        have hbig' : (S t).size + acc.length ≤ 100000000000 := by rw [size_S]; omega
        go_wp2_with (go_at_call 32; refine (hC _).mono ?_; rintro e w1 ⟨rfl, n, rfl⟩)
        refine (Bld.writeString B B acc (S t) _ (hbld.drewN n) (by omega) hsz).mono ?_
        rintro e w2 ⟨rfl, hbld2, hbel2, -⟩
        have hsz2 : B ≤ w2.heap.size := Nat.le_trans hsz hbel2.size
        have hbelA : Below B w w2 := (below_dr hbel n).trans hbel2
        clear hbel2
        go_wp2_with (fail)
        refine (Bld.string B B _ _ hbld2 hsz2).mono ?_
        rintro e w3 ⟨rfl, hbel3⟩
        go_wp2_with (fail)
        go_ret
        exact ⟨by rw [← HQ.out]; rfl, hB ▸ hbelA.trans hbel3⟩
      · rw [if_pos h1, h3] at hq
        obtain ⟨m0, hm, hq⟩ := Option.bind_eq_some_iff.1 hq
        split at hq
        · rename_i hm0
          obtain ⟨m, rfl⟩ : ∃ m : Nat, m0 = (m : Int) := ⟨m0.toNat, by omega⟩
          rw [Int.toNat_natCast] at hq
          split at hq
          · rename_i hml
            obtain ⟨p, hp⟩ : ∃ p, t.takeWhile (· != 36) = p := ⟨_, rfl⟩
            rw [hp] at h2 h4 hq
            clear hp h1 h3 hm0
            have hC := fun w => cutSome (S t) 36 p q w (by rw [size_S]; omega) (by rw [data_S]; exact h2) h4
            have htp : t.length = p.length + (q.length + 1) := by rw [h2]; simp
            have e0 : (S t).extract p.length (p.length + (q.length + 1)) = S (36 :: q) := by rw [← S_drop (S t) p (36 :: q) (by rw [data_S]; exact h2), ← htp, S_size]
            have HT := Lib.hid h2
            clear h2 h4
            obtain ⟨U, hU⟩ : ∃ U, S ((36 :: q).take m) = U := ⟨_, rfl⟩
            have e1 : (S (36 :: q)).extract 0 m = U := by
              rw [← hU]; exact S_take (S (36 :: q)) ((36 :: q).take m) ((36 :: q).drop m) (by rw [data_S, List.take_append_drop]) |>.symm ▸ by
                have : ((36 :: q).take m).length = m := by rw [List.length_take]; omega
                rw [this]
            have hUl : U.toList = (36 :: q).take m := by rw [← hU, Lib.toList_data, data_S]
            have hSp : (S p).size = p.length := S_size p
            have hSr : (S (36 :: q)).size = q.length + 1 := by rw [S_size]; simp
            have hSt : (S t).size = t.length := S_size t
            have g1 : p.length ≤ (S t).size := by omega
            have dp : decide (0 ≤ (p.length : Int)) = true := decide_eq_true (by omega)
            have dm : decide (0 ≤ (m : Int)) = true := decide_eq_true (by omega)
            have gm : m ≤ (S (36 :: q)).size := by rw [hSr]; simpa using hml
            have hUs : U.size = m := by rw [← hU, S_size, List.length_take]; omega
            go_wp2_with (fail)
            refine (hC _).mono ?_
            rintro e w1 ⟨rfl, n, rfl⟩
            go_wp2_with (fail)
            refine (Bld.writeString B B acc (S p) _ (hbld.drewN n) (by omega) hsz).mono ?_
            rintro e w2 ⟨rfl, hbld2, hbel2, -⟩
            have hsz2 : B ≤ w2.heap.size := Nat.le_trans hsz hbel2.size
            have hbelA : Below B w w2 := (below_dr hbel n).trans hbel2
            rw [data_S] at hbld2
            clear hbel2 hbld hbel hsz
            go_wp2_with (fail)
            refine (PO.expand_Use.calls g (S (36 :: q)) m _ hm).mono ?_
            rintro e w3 ⟨rfl, ⟨n3, rfl⟩⟩
            have hbld3 := hbld2.drewN n3
            have hbelB := below_dr hbelA n3
            clear hbld2 hbelA
            split at hq
            · rename_i hA
              have c1 : (U.toList == [36, 36]) = true := by rw [hUl, hA]; rfl
              have hUd : U.data.toList = [36, 36] := by rw [← Lib.toList_data, hUl, hA]
              clear hUl
              go_wp2_with (fail)
              have hm2 : m = 2 := by
                have := congrArg List.length hA
                rw [List.length_take] at this
                simp only [List.length_cons, List.length_nil] at this hml
                omega
              have hU2 : U.size = 2 := by rw [hUs, hm2]
              refine (Bld.writeString B B (acc ++ p) U _ hbld3 (by rw [hU2, List.length_append]; omega) hsz2).mono ?_
              rintro e w4 ⟨rfl, hbld4, hbel4, -⟩
              have hsz4 : B ≤ w4.heap.size := Nat.le_trans hsz2 hbel4.size
              have hbelC := hbelB.trans hbel4
              rw [hUd] at hbld4
              have hql : 1 ≤ q.length := by omega
              have e2 : (S (36 :: q)).extract 2 (q.length + 1) = S (q.drop 1) := by
                cases q with
                | nil => simp at hql
                | cons b q =>
                  have := S_drop (S (36 :: b :: q)) [36, b] q (by rw [data_S]; rfl)
                  rw [hSr] at this
                  exact this
              have d2 : decide ((2 : Int) ≤ (q.length : Int) + 1) = true := decide_eq_true (by omega)
              clear hbel4 hbld3 hbelB hA c1
              go_wp2_with (fail)
              go_roundg g
              case measure => omega
              case rel =>
                exact ⟨q.drop 1, acc ++ p ++ [36, 36], by simp, Lib.hid hq, hbld4, hbelC, hsz4⟩
            · rename_i hA
              have c1 : (U.toList == [36, 36]) = false := by
                rw [hUl]; exact beq_false_of_ne hA
              have hUw : isUse (List.take m (36 :: q)) name.data.toList = isUseB U name := by rw [← hUl]; exact isUse_eq U name
              rw [hUw] at hq
              clear hUw hUl
              split at hq
              · rename_i hI
                obtain ⟨Q, hQ, hq⟩ := Option.bind_eq_some_iff.1 hq
                rw [S_data] at hQ
                split at hq
                · rename_i hQs
                  have hE := isUseB_ne U name hI
                  rcases isUseB_cases U name hI with h1 | ⟨h1, h2⟩ | ⟨h1, h2, h3, h4⟩
                  all_goals
                    go_wp2_with (fail)
                    refine (PO.expand_Quote.calls value Q _ hQ).mono ?_
                    rintro e w4 ⟨rfl, hb4⟩
                    have hbld4 := hbld3.below hb4
                    have hsz4 : B ≤ w4.heap.size := Nat.le_trans hsz2 hb4.size
                    have hbelC := below_then hbelB hsz2 hb4
                    clear hb4
                    go_wp2_with (fail)
                    refine (Bld.writeString B B (acc ++ p) Q _ hbld4 (by rw [List.length_append]; omega) hsz4).mono ?_
                    rintro e w5 ⟨rfl, hbld5, hbel5, -⟩
                    have hsz5 : B ≤ w5.heap.size := Nat.le_trans hsz4 hbel5.size
                    have hbelD := hbelC.trans hbel5
                    clear hbel5 hbld4 hbelC
                    have e2 : (S (36 :: q)).extract m (q.length + 1) = S ((36 :: q).drop m) := by
                      have := S_drop (S (36 :: q)) ((36 :: q).take m) ((36 :: q).drop m) (by rw [data_S, List.take_append_drop])
                      rw [List.length_take, hSr] at this
                      have hmm : min m (36 :: q).length = m := by omega
                      rw [hmm] at this
                      exact this
                    have d2 : decide ((m : Int) ≤ (q.length : Int) + 1) = true := decide_eq_true (by omega)
                    go_wp2_with (fail)
                    go_roundg g
                    case measure => omega
                    case rel =>
                      exact ⟨(36 :: q).drop m, acc ++ p ++ Q.data.toList, rfl, Lib.hid hq, hbld5, hbelD, hsz5⟩
                · cases hq
              · rename_i hI
                obtain ⟨h1, h2, h3⟩ := isUseB_not U name (by simpa using hI)
                rcases h3 with h3 | ⟨h3, h4⟩
                all_goals
                  go_wp2_with (fail)
                  all_goals
                    refine (Bld.writeByte B B (acc ++ p) 36 _ hbld3 (by rw [List.length_append]; omega) hsz2).mono ?_
                    rintro e w4 ⟨rfl, hbld4, hbel4, -⟩
                    have hsz4 : B ≤ w4.heap.size := Nat.le_trans hsz2 hbel4.size
                    have hbelC := hbelB.trans hbel4
                    clear hbel4
                    go_wp2_with (fail)
                    go_roundg g
                    case measure => omega
                    case rel =>
                      exact ⟨q, acc ++ p ++ [36], rfl, Lib.hid (by simpa using hq), hbld4, hbelC, hsz4⟩
          · cases hq
        · cases hq
    · cases hq
end Go.Proofs.YtiedbnjoomcdbaaDoor
