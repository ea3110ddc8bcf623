/- Walks: which words are keywords and which are names, in the program and in the reference. -/
import Derived.Test.YtaeplgakpacobaaDoorLib
import Derived.Test.YtaeplgakpacobaaDoorTokW6
import Derived.Test.YtaeplgakpacobaaDoorFoldW
import Derived.Test.YtaeplgakpacobaaDoorWords2
import Derived.Test.YtaeplgakpacobaaDoorStrs
import Derived.Test.YtaeplgakpacobaaDoorTokW9
import Derived.Test.YtaeplgakpacobaaDoorBelow
import Derived.Shelf.Unicode.CaseLaid
import Derived.Shelf.Unicode.DecodeSlow
set_option maxRecDepth 100000
set_option linter.unusedVariables false
set_option linter.unusedSimpArgs false
namespace Go.Proofs.YtaeplgakpacobaaDoor
open Go.RowKit Go.Lib

/-- the library's tables that strings.ToUpper reads -/
structure Upper (w : World) : Prop where
  maxl : MaxL w
  cases_ : CaseVar 0 caseA w
  tabs : Lib.Utf8Tabs 3 4 w
theorem Upper.below {w w' : World} (h : Upper w) (hb : Below w.heap.size w w') : Upper w' := ⟨h.maxl.below hb, CaseVar_below h.cases_ hb, Utf8Tabs_below h.tabs hb⟩

theorem toUpper_any (s : ByteArray) (w : World) (hU : Upper w) (hs : s.size ≤ 1048576) :
    Calls Tryd.prog 24 #[.string s] w fun e w' => ∃ K : ByteArray, e = .returned (.string K) ∧ Below w.heap.size w w' :=
  (Tryd.strings_ToUpper_any s w (by omega) hU.cases_ hU.tabs).mono fun _ _ ⟨h, hb⟩ => ⟨_, h, hb⟩
theorem toUpper_letters (s K : ByteArray) (w : World) (hs : s.size ≤ 1048576) (hl : Hid (s.data.toList.all Tok.letter = true)) (hK : Hid (bs (Lib.toUpperA s.data.toList) = K)) :
    Calls Tryd.prog 24 #[.string s] w fun e w' => e = .returned (.string K) ∧ Below w.heap.size w w' :=
  (Tryd.strings_ToUpper_ascii s w (by omega) fun j b hb => (Tok.low_facts b).2.2.2 (List.all_eq_true.1 hl.out b (List.mem_of_getElem? hb))).mono fun _ _ ⟨h, hb⟩ => ⟨by rw [h, ← hK.out]; rfl, hb⟩
theorem contains_kw (S T K : ByteArray) (b : Bool) (w : World) (hU : Upper w) (hb : Hid (Lib.contains (32 :: (Tok.KW ++ [32])) (32 :: (K.data.toList ++ [32])) = b)) (hS : S.data.toList = 32 :: (Tok.KW ++ [32])) (hT : T.data.toList = 32 :: (K.data.toList ++ [32])) :
    Calls Tryd.prog 27 #[.string S, .string T] w fun e w' => e = .returned (.bool b) ∧ w = w' := by
  obtain ⟨m, hm, _⟩ := hU.maxl
  have hz : S.size < 4294967281 := by
    have e : S.data.toList.length = S.size := rfl
    rw [hS] at e
    have : (32 :: (Tok.KW ++ [32])).length ≤ 4000 := by decide +kernel
    omega
  refine (Tryd.strings_Contains S T m w hz hm).mono fun _ _ ⟨h, h'⟩ => ⟨?_, h'.symm⟩
  rw [h, hS, hT, hb.out]

set_option maxHeartbeats 1000000 in
theorem keyword_any (s : ByteArray) (w : World) (hU : Upper w) (hs : s.size ≤ 1048576) :
    Calls Tryd.prog 11 #[.string s] w fun e w' => e = .returned (.tuple #[.string (bs (Tok.kwText s.data.toList)), .bool (Tok.isKw s.data.toList)]) ∧ Below w.heap.size w w' := by
  have hlen : s.data.toList.length = s.size := rfl
  by_cases h0 : s.size = 0
  · have hl : s.data.toList = [] := List.eq_nil_of_length_eq_zero (by omega)
    obtain rfl : s = ⟨#[]⟩ := by rw [← bs_of s, hl]; rfl
    go_enter Tryd.func11, Tryd.ntmps11
    go_wp2_with (go_at_call 24; refine (toUpper_letters _ ⟨#[]⟩ _ hs (Lib.hid rfl) (Lib.hid rfl)).mono ?_; rintro e w1 ⟨rfl, hb⟩)
    go_ret2
    refine ⟨?_, hb⟩
    have e1 : Tok.isKw (ByteArray.mk #[]).data.toList = false := by decide +kernel
    have e2 : Tok.kwText (ByteArray.mk #[]).data.toList = [] := by decide +kernel
    rw [e1, e2]; rfl
  · by_cases hl : s.data.toList.all Tok.letter = true
    · obtain ⟨K, hK⟩ : ∃ K : ByteArray, bs (Lib.toUpperA s.data.toList) = K := ⟨_, rfl⟩
      obtain ⟨b, hbk⟩ : ∃ b, Tok.isKw s.data.toList = b := ⟨_, rfl⟩
      have hrun : s.size = Tok.runEnd Tok.letter s.data.toList 0 := by
        have := (Tok.runEnd_all Tok.letter s.data.toList 0 (by omega)).2 (by simpa using hl)
        omega
      have hcon := Tok.kw_contains (w := s.data.toList) (by intro h; rw [h] at hlen; simp at hlen; omega) hl
      rw [hbk] at hcon
      have hKl : K.data.toList = Lib.toUpperA s.data.toList := by rw [← hK]; rfl
      have hKs : K.size = s.size := by
        have e : K.data.toList.length = K.size := rfl
        rw [hKl] at e
        simp [Lib.toUpperA] at e
        omega
      rw [← hKl] at hcon
      have hne1 : ¬ s.toList = [] := by
        intro h
        have : s.data.toList.length = 0 := by rw [← Lib.toList_data, h]; rfl
        omega
      have hne : s.toList.isEmpty = false := List.isEmpty_eq_false_iff.2 hne1
      have hkt : Tok.kwText s.data.toList = if b = true then K.data.toList else [] := by unfold Tok.kwText; rw [hbk, hKl]
      have hlB : decide ((s.size : Int) < (s.size : Int)) = false := by simp
      rw [hkt, hbk]
      have hKz : K.size ≤ 1048576 := by omega
      replace hl := Lib.hid hl
      replace hK := Lib.hid hK
      replace hrun := Lib.hid hrun
      replace hcon := Lib.hid hcon
      replace hKs := Lib.hid hKs
      clear hbk hKl hkt hlen
      have hKB : ((K.size : Int) != (s.size : Int)) = false := by rw [hKs.out]; simp
      cases b with
      | true =>
        go_enter Tryd.func11, Tryd.ntmps11
        go_wp2_with (first
          | (go_at_call 24; refine (toUpper_letters _ _ _ hs hl hK).mono ?_; rintro e w1 ⟨rfl, hb⟩)
          | (go_at_call 25; refine (run_letter_is _ 0 _ hrun (by omega) (by omega)).mono ?_; rintro e w2 ⟨rfl, rfl⟩)
          | (go_at_call 27; refine (contains_kw _ _ K _ _ (hU.below hb) hcon (by kernel_rfl) (by simp)).mono ?_; rintro e w3 ⟨rfl, rfl⟩))
        go_ret2
        exact ⟨by simp [bs_of], hb⟩
      | false =>
        go_enter Tryd.func11, Tryd.ntmps11
        go_wp2_with (first
          | (go_at_call 24; refine (toUpper_letters _ _ _ hs hl hK).mono ?_; rintro e w1 ⟨rfl, hb⟩)
          | (go_at_call 25; refine (run_letter_is _ 0 _ hrun (by omega) (by omega)).mono ?_; rintro e w2 ⟨rfl, rfl⟩)
          | (go_at_call 27; refine (contains_kw _ _ K _ _ (hU.below hb) hcon (by kernel_rfl) (by simp)).mono ?_; rintro e w3 ⟨rfl, rfl⟩))
        go_ret2
        exact ⟨rfl, hb⟩
    · have hl : s.data.toList.all Tok.letter = false := by simpa using hl
      have hk := Tok.not_letters hl
      have hkt : Tok.kwText s.data.toList = [] := by unfold Tok.kwText; rw [hk]; rfl
      obtain ⟨n, hn⟩ : ∃ n, n = Tok.runEnd Tok.letter s.data.toList 0 := ⟨_, rfl⟩
      have hrun : n < s.size := by
        have h1 : ¬ Tok.runEnd Tok.letter s.data.toList 0 = s.data.toList.length := fun h => by
          have := (Tok.runEnd_all Tok.letter s.data.toList 0 (by omega)).1 h
          rw [List.drop_zero, hl] at this; cases this
        have h2 := Tok.runEnd_le Tok.letter s.data.toList 0 (by omega)
        omega
      have hne1 : ¬ s.toList = [] := by
        intro h
        have : s.data.toList.length = 0 := by rw [← Lib.toList_data, h]; rfl
        omega
      have hne : s.toList.isEmpty = false := List.isEmpty_eq_false_iff.2 hne1
      have hlB : decide ((n : Int) < (s.size : Int)) = true := by simp; omega
      rw [hkt, hk]
      replace hn := Lib.hid hn
      clear hkt hk hl hlen
      go_enter Tryd.func11, Tryd.ntmps11
      go_wp2_with fail
      refine (toUpper_any _ _ hU hs).mono ?_
      rintro e w1 ⟨K, rfl, hb⟩
      by_cases hKB : K.size = s.size
      · have hKB : ((K.size : Int) != (s.size : Int)) = false := by rw [hKB]; simp
        go_wp2_with (go_at_call 25; refine (run_letter_is _ 0 _ hn (by omega) (by omega)).mono ?_; rintro e w2 ⟨rfl, rfl⟩)
        go_ret2
        exact ⟨rfl, hb⟩
      · have hKB : ((K.size : Int) != (s.size : Int)) = true := by simp; omega
        go_wp2
        go_ret2
        exact ⟨rfl, hb⟩

theorem nameW_any (c : UInt8) (w : World) :
    Calls Tryd.prog 30 #[.int .u8 (c.toNat : Int)] w fun e w' => e = .returned (.bool (Tok.word c)) ∧ w = w' := by
  go_enter Tryd.func30, Tryd.ntmps30
  go_wp2_with (first
    | (go_at_call 26; refine (letter_any _ _).mono ?_; rintro e w' ⟨rfl, rfl⟩)
    | (go_at_call 31; refine (digit_any _ _).mono ?_; rintro e w' ⟨rfl, rfl⟩))
  all_goals go_ret
  all_goals (refine ⟨ret_bool ?_, rfl⟩; simp_all [Tok.word])

theorem run_name (s : ByteArray) (w : World) (n : Nat) (hn : Hid (n = Tok.runEnd Tok.word s.data.toList 0)) (hs : s.size ≤ 1048576) :
    Calls Tryd.prog 25 #[.string s, .int .i64 0, .func (.func 30) #[] #[]] w fun e w' => e = .returned (.int .i64 (n : Int)) ∧ w = w' := by
  go_enter Tryd.func25, Tryd.ntmps25
  go_wp2
  go_loop [1] (fun i => ∃ k : Nat, k ≤ s.size ∧ i = .int .i64 (k : Int) ∧ Hid (Tok.runEnd Tok.word s.data.toList k = n)) (fun i => s.size - (intOf i).toNat)
  case atStart => exact ⟨0, by omega, by go_num, Lib.hid hn.out.symm⟩
  case round =>
    obtain ⟨k, hk, rfl, hr⟩ := hrel
    by_cases hlt : k < s.size
    · have hlt' : k < s.data.toList.length := hlt
      go_wp2_with (go_at_call 30; refine (nameW_any _ _).mono ?_; rintro e w' ⟨rfl, rfl⟩)
      · have hp : Tok.word s[k] = true := by assumption
        go_round
        case rel => exact ⟨k + 1, by omega, by go_num, Lib.hid ((Tok.runEnd_step hlt' hp).trans hr.out)⟩
        case measure => simp [intOf]; omega
      · have hp : Tok.word s[k] = false := by assumption
        go_ret
        exact ⟨ret_int (by rw [← hr.out, Tok.runEnd_stop hlt' hp]), rfl⟩
    · have hlt' : s.data.toList.length ≤ k := Nat.le_of_not_lt hlt
      go_wp2
      go_ret
      exact ⟨ret_int (by rw [← hr.out, Tok.runEnd_end hlt']), rfl⟩

set_option maxHeartbeats 1000000 in
theorem name_any (s : ByteArray) (w : World) (hU : Upper w) (hs : s.size ≤ 1048576) :
    Calls Tryd.prog 13 #[.string s] w fun e w' => e = .returned (.bool (Tok.name s.data.toList)) ∧ Below w.heap.size w w' := by
  have hlen : s.data.toList.length = s.size := rfl
  obtain ⟨r, hr⟩ : ∃ r, Tok.name s.data.toList = r := ⟨_, rfl⟩
  rw [hr]
  by_cases h0 : s.size = 0
  · have hl : s.data.toList = [] := List.eq_nil_of_length_eq_zero (by omega)
    have hr' : r = false := by rw [← hr, hl]; rfl
    subst hr'
    have hne1 : s.toList = [] := by rw [Lib.toList_data, hl]
    have hne : s.toList.isEmpty = true := List.isEmpty_iff.2 hne1
    clear hr hl
    go_enter Tryd.func13, Tryd.ntmps13
    go_wp2
    go_ret
    exact ⟨rfl, Below.refl _ _⟩
  · have hne1 : ¬ s.toList = [] := by
      intro h
      have : s.data.toList.length = 0 := by rw [← Lib.toList_data, h]; rfl
      omega
    have hne : s.toList.isEmpty = false := List.isEmpty_eq_false_iff.2 hne1
    have h1 : 0 < s.size := by omega
    have hc : s.data.toList = s[0] :: s.data.toList.drop 1 := by
      have h' : 0 < s.data.toList.length := h1
      have := List.drop_eq_getElem_cons h'
      rw [List.drop_zero] at this
      exact this
    have hname : r = (decide (s.size ≤ 32) && Tok.letter s[0] && s.data.toList.all Tok.word && !Tok.isKw s.data.toList) := by
      rw [← hr]; unfold Tok.name Tok.isName
      rw [hc]; simp only [← hc, hlen]
    by_cases h32 : s.size ≤ 32
    · have hB : decide ((s.size : Int) > 32) = false := by simp; omega
      cases hlt : Tok.letter s[0] with
      | false =>
        have hr' : r = false := by rw [hname, hlt]; simp
        subst hr'
        have hcall := letter_any s[0]
        rw [hlt] at hcall
        clear hr hc hname
        go_enter Tryd.func13, Tryd.ntmps13
        go_wp2_with (go_at_call 26; refine (hcall _).mono ?_; rintro e w' ⟨rfl, rfl⟩)
        go_ret
        exact ⟨rfl, Below.refl _ _⟩
      | true =>
        have hcall := letter_any s[0]
        rw [hlt] at hcall
        have key := keyword_any s w hU hs
        obtain ⟨kt, hkt⟩ : ∃ kt, bs (Tok.kwText s.data.toList) = kt := ⟨_, rfl⟩
        rw [hkt] at key
        clear hkt
        cases hkw : Tok.isKw s.data.toList with
        | true =>
          have hr' : r = false := by rw [hname, hkw]; simp
          subst hr'
          rw [hkw] at key
          clear hr hc hname hkw
          go_enter Tryd.func13, Tryd.ntmps13
          go_wp2_with (first
            | (go_at_call 26; refine (hcall _).mono ?_; rintro e w' ⟨rfl, rfl⟩)
            | (go_at_call 11; refine key.mono ?_; rintro e w1 ⟨rfl, hb⟩))
          go_ret
          exact ⟨rfl, hb⟩
        | false =>
          rw [hkw] at key
          obtain ⟨n, hn⟩ : ∃ n, n = Tok.runEnd Tok.word s.data.toList 0 := ⟨_, rfl⟩
          have hall := Tok.runEnd_all Tok.word s.data.toList 0 (by omega)
          rw [← hn, hlen, List.drop_zero] at hall
          have hr' : r = ((n : Int) == (s.size : Int)) := by
            rw [hname, hlt, hkw, decide_eq_true h32]
            by_cases hn2 : n = s.size
            · rw [hall.1 hn2, hn2]; simp
            · have hf : s.data.toList.all Tok.word = false := by
                cases hA : s.data.toList.all Tok.word with
                | false => rfl
                | true => exact absurd (hall.2 hA) hn2
              rw [hf]
              symm
              simp; omega
          subst hr'
          replace hn := Lib.hid hn
          clear hc hname hkw hall hr
          go_enter Tryd.func13, Tryd.ntmps13
          go_wp2_with (first
            | (go_at_call 26; refine (hcall _).mono ?_; rintro e w' ⟨rfl, rfl⟩)
            | (go_at_call 11; refine key.mono ?_; rintro e w1 ⟨rfl, hb⟩)
            | (go_at_call 25; refine (run_name _ _ _ hn hs).mono ?_; rintro e w2 ⟨rfl, rfl⟩))
          go_ret
          exact ⟨rfl, hb⟩
    · have hB : decide ((s.size : Int) > 32) = true := by simp; omega
      have hr' : r = false := by rw [hname, decide_eq_false h32]; simp
      subst hr'
      clear hr hc hname
      go_enter Tryd.func13, Tryd.ntmps13
      go_wp2
      go_ret
      exact ⟨rfl, Below.refl _ _⟩

end Go.Proofs.YtaeplgakpacobaaDoor
