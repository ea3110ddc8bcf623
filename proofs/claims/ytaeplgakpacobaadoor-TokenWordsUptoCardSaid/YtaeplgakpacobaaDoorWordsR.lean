/- Walks: the reference's words, keywords and names. -/
import Derived.Test.YtaeplgakpacobaaDoorFoldW
import Derived.Test.YtaeplgakpacobaaDoorWords2
import Derived.Test.YtaeplgakpacobaaDoorStrs
import Derived.Test.YtaeplgakpacobaaDoorBelow
set_option maxRecDepth 100000
set_option linter.unusedVariables false
set_option linter.unusedSimpArgs false
namespace Go.Proofs.YtaeplgakpacobaaDoor
open Go.RowKit Go.Lib

/-- the words of a text, as the reference's loop has them at byte i: those before, and the one that is being read -/
theorem words_at {l : List UInt8} {i f : Nat} {o R : List (List UInt8)} (hi : i < l.length) (hf : f ≤ i) (h : o ++ Tok.words (l.drop i) ((l.take i).drop f) = R) :
    (l[i] = 32 → i ≤ f → o ++ Tok.words (l.drop (i + 1)) ((l.take (i + 1)).drop (i + 1)) = R) ∧
    (l[i] = 32 → f < i → (o ++ [(l.take i).drop f]) ++ Tok.words (l.drop (i + 1)) ((l.take (i + 1)).drop (i + 1)) = R) ∧
    (l[i] ≠ 32 → o ++ Tok.words (l.drop (i + 1)) ((l.take (i + 1)).drop f) = R) := by
  have hd := List.drop_eq_getElem_cons hi
  have ht := List.take_succ_eq_append_getElem hi
  have hlen : (l.take i).length = i := by simp; omega
  have hz : (l.take (i + 1)).drop (i + 1) = [] := List.drop_eq_nil_of_le (by simp; omega)
  rw [hd] at h
  refine ⟨fun h1 h2 => ?_, fun h1 h2 => ?_, fun h1 => ?_⟩
  · have hn : (l.take i).drop f = [] := List.drop_eq_nil_of_le (by omega)
    rw [hn, Tok.words_gap _ h1] at h
    rw [hz]; exact h
  · have hn : (l.take i).drop f ≠ [] := by
      intro h3
      have := congrArg List.length h3
      rw [List.length_drop, hlen] at this
      simp at this; omega
    rw [Tok.words_word _ h1 hn] at h
    rw [hz, List.append_assoc]; exact h
  · rw [Tok.words_byte _ _ h1] at h
    rw [ht, List.drop_append_of_le_length (by omega)]; exact h
theorem words_end {l : List UInt8} {i f : Nat} {o R : List (List UInt8)} (hi : i = l.length) (hf : f ≤ i) (h : o ++ Tok.words (l.drop i) ((l.take i).drop f) = R) :
    (i ≤ f → o = R) ∧ (f < i → o ++ [(l.take i).drop f] = R) := by
  subst hi
  rw [List.drop_length, List.take_length] at h
  rw [List.take_length]
  refine ⟨fun h2 => ?_, fun h2 => ?_⟩
  · rw [List.drop_eq_nil_of_le (by omega)] at h
    simpa [Tok.words] using h
  · have hn : l.drop f ≠ [] := by
      intro h3
      have := congrArg List.length h3
      simp at this; omega
    rwa [Tok.words, if_neg hn] at h

set_option maxHeartbeats 1000000 in
theorem rwords_any (s : ByteArray) (R : List (List UInt8)) (w : World) (hs : s.size ≤ 1048576) (hR : Hid (Tok.words s.data.toList [] = R)) :
    Calls Tryd.prog 28 #[.string s] w fun e w' => ∃ v, e = .returned v ∧ w'.ownsRow w.heap.size 9 1 v R.length (strC R) ∧ Below w.heap.size w w' := by
  have hlen : s.data.toList.length = s.size := rfl
  go_enter Tryd.func28, Tryd.ntmps28
  go_wp2
  go_loopw [3, 4, 5] (fun vo vf iv wr => ∃ (v : Value) (f i : Nat) (o : List (List UInt8)), v = vo ∧ vf = .int .i64 (f : Int) ∧ iv = .int .i64 (i : Int) ∧ o.length ≤ i ∧ i ≤ s.size + 1 ∧ Hid ((i ≤ s.size ∧ f ≤ i ∧ o ++ Tok.words (s.data.toList.drop i) ((s.data.toList.take i).drop f) = R) ∨ (i = s.size + 1 ∧ o = R)) ∧ wr.ownsRow w.heap.size 9 1 v o.length (strC o) ∧ Below w.heap.size w wr) (fun _ _ iv _ => s.size + 1 - (intOf iv).toNat)
  case atStart => exact ⟨_, 0, 0, [], rfl, by go_num, by go_num, by simp, by omega, Lib.hid (.inl ⟨by omega, by omega, by simpa using hR.out⟩), World.ownsRow_nil _ _ _ _, Below.refl _ _⟩
  case round =>
    obtain ⟨v, f, i, o, rfl, rfl, rfl, hol, hin, hst, hown, hb⟩ := hrel
    rcases hst.out with ⟨hi, hf, he⟩ | ⟨hi, he⟩
    · have bL : decide ((i : Int) ≤ (s.size : Int)) = true := by simp; omega
      have hbytes : (o.length + 1) * 16 ≤ 140737488355328 := by omega
      have hslice : ∀ k, (s.extract f k) = bs ((s.data.toList.take k).drop f) := fun k => by rw [← bs_of (s.extract f k), Lib.extract_data, List.drop_take]
      by_cases hfi : f < i
      · have bF : decide ((i : Int) > (f : Int)) = true := by simp; omega
        by_cases hlt : i < s.size
        · have bN : ((i : Int) == (s.size : Int)) = false := by simp; omega
          have hlt' : i < s.data.toList.length := hlt
          by_cases hc : s[i] = 32
          · have b32 : ((s[i].toNat : Int) == 32) = true := by rw [hc]; rfl
            have hn := (words_at hlt' hf he).2.1 hc hfi
            replace hn := Lib.hid hn
            replace hslice := Lib.hid hslice
            clear he hst hc
            go_wp2_with (at_builtin; go_must (refine wpList_push rfl _ _ 52 rfl w.heap.size 9 Tryd.underlying52 str_info rfl (by decide) _ _ _ rfl hown _ rfl rfl (one_str _) hbytes (by decide) hb.size ?_); intro v' w1 hown' hb' hv' _)
            go_roundw
            case rel => exact ⟨_, i + 1, i + 1, o ++ [(s.data.toList.take i).drop f], rfl, by go_num, by go_num, by simp; omega, by omega, Lib.hid (.inl ⟨by omega, by omega, hn.out⟩), by rw [strC_snoc, ← hslice.out]; simpa using hown', hb.trans hb'⟩
            case measure => simp [intOf]; omega
          · have b32 : ((s[i].toNat : Int) == 32) = false := by
              rw [beq_eq_false_iff_ne]; intro h
              exact hc (UInt8.toNat_inj.1 (by simpa using (Int.ofNat.inj h)))
            have hn := (words_at hlt' hf he).2.2 hc
            replace hn := Lib.hid hn
            clear he hst hc hslice
            go_wp2
            go_roundw
            case rel => exact ⟨_, f, i + 1, o, rfl, rfl, by go_num, by omega, by omega, Lib.hid (.inl ⟨by omega, by omega, hn.out⟩), hown, hb⟩
            case measure => simp [intOf]; omega
        · have hie : i = s.size := by omega
          have bN : ((i : Int) == (s.size : Int)) = true := by simp; omega
          have hn := (words_end (hie.trans hlen.symm) hf he).2 hfi
          replace hn := Lib.hid hn
          replace hslice := Lib.hid hslice
          clear he hst
          go_wp2_with (at_builtin; go_must (refine wpList_push rfl _ _ 52 rfl w.heap.size 9 Tryd.underlying52 str_info rfl (by decide) _ _ _ rfl hown _ rfl rfl (one_str _) hbytes (by decide) hb.size ?_); intro v' w1 hown' hb' hv' _)
          go_roundw
          case rel => exact ⟨_, i + 1, i + 1, o ++ [(s.data.toList.take i).drop f], rfl, by go_num, by go_num, by simp; omega, by omega, Lib.hid (.inr ⟨by omega, hn.out⟩), by rw [strC_snoc, ← hslice.out]; simpa [hie] using hown', hb.trans hb'⟩
          case measure => simp [intOf]; omega
      · have bF : decide ((i : Int) > (f : Int)) = false := by simp; omega
        clear hslice
        by_cases hlt : i < s.size
        · have bN : ((i : Int) == (s.size : Int)) = false := by simp; omega
          have hlt' : i < s.data.toList.length := hlt
          by_cases hc : s[i] = 32
          · have b32 : ((s[i].toNat : Int) == 32) = true := by rw [hc]; rfl
            have hn := (words_at hlt' hf he).1 hc (by omega)
            replace hn := Lib.hid hn
            clear he hst hc
            go_wp2
            go_roundw
            case rel => exact ⟨_, i + 1, i + 1, o, rfl, by go_num, by go_num, by omega, by omega, Lib.hid (.inl ⟨by omega, by omega, hn.out⟩), hown, hb⟩
            case measure => simp [intOf]; omega
          · have b32 : ((s[i].toNat : Int) == 32) = false := by
              rw [beq_eq_false_iff_ne]; intro h
              exact hc (UInt8.toNat_inj.1 (by simpa using (Int.ofNat.inj h)))
            have hn := (words_at hlt' hf he).2.2 hc
            replace hn := Lib.hid hn
            clear he hst hc
            go_wp2
            go_roundw
            case rel => exact ⟨_, f, i + 1, o, rfl, rfl, by go_num, by omega, by omega, Lib.hid (.inl ⟨by omega, by omega, hn.out⟩), hown, hb⟩
            case measure => simp [intOf]; omega
        · have hie : i = s.size := by omega
          have bN : ((i : Int) == (s.size : Int)) = true := by simp; omega
          have hn := (words_end (hie.trans hlen.symm) hf he).1 (by omega)
          replace hn := Lib.hid hn
          clear he hst
          go_wp2
          go_roundw
          case rel => exact ⟨_, i + 1, i + 1, o, rfl, by go_num, by go_num, by omega, by omega, Lib.hid (.inr ⟨by omega, hn.out⟩), hown, hb⟩
          case measure => simp [intOf]; omega
    · have bL : decide ((i : Int) ≤ (s.size : Int)) = false := by simp; omega
      subst he
      clear hst
      go_wp2
      go_ret
      exact ⟨_, rfl, hown, hb⟩

/-- the list of keywords, in memory -/
theorem rwords_kw (N : Nat) (S : ByteArray) (w : World) (hN : Hid (Tok.KWL.length = N)) (hS : S.data.toList = Tok.KW) :
    Calls Tryd.prog 28 #[.string S] w fun e w' => ∃ g c, e = .returned (.slice (some ⟨g, 0, none⟩) N c) ∧ g < w'.heap.size ∧ (∀ (j : Nat) u, Tok.KWL[j]? = some u → w'.cell? ⟨g, j, none⟩ = some (.string (bs u))) ∧ Below w.heap.size w w' := by
  have hz : S.size ≤ 1048576 := by
    have e : S.data.toList.length = S.size := rfl
    rw [hS] at e
    have : Tok.KW.length ≤ 4000 := by decide +kernel
    omega
  refine (rwords_any S Tok.KWL w hz (Lib.hid (by rw [hS]; rfl))).mono ?_
  rintro e w' ⟨v, rfl, hown, hb⟩
  have hpos : 0 < Tok.KWL.length := by decide +kernel
  obtain ⟨g, c, rfl, _, hlt⟩ := hown.form hpos
  refine ⟨g, c, by rw [hN.out], hlt, fun j u hj => ?_, hb⟩
  have hjl : j < Tok.KWL.length := (List.getElem?_eq_some_iff.1 hj).1
  refine (hown.cellAt j hjl).trans ?_
  simp [strC, hj]

theorem kwl_small {u : List UInt8} (h : u ∈ Tok.KWL) : (bs u).size ≤ 1048576 := by
  have h1 : Tok.KWL.all (fun u => decide (u.length ≤ 1000)) = true := by decide +kernel
  have := List.all_eq_true.1 h1 u h
  have e : (bs u).size = u.length := by simp [bs, ByteArray.size]
  simp at this
  omega

set_option maxHeartbeats 1000000 in
theorem rkeyword_any (s : ByteArray) (w : World) (hs : s.size ≤ 1048576) :
    Calls Tryd.prog 12 #[.string s] w fun e w' => e = .returned (.tuple #[.string (bs (Tok.kwText s.data.toList)), .bool (Tok.isKw s.data.toList)]) ∧ Below w.heap.size w w' := by
  obtain ⟨N, hN⟩ : ∃ N, Tok.KWL.length = N := ⟨_, rfl⟩
  have hN3 : N ≤ 1000 := by rw [← hN]; exact Tok.kwl_len
  obtain ⟨F, hF⟩ : ∃ F : ByteArray, bs (Txt.fold s.data.toList 1) = F := ⟨_, rfl⟩
  have hFl : F.data.toList = s.data.toList.map Txt.lower := by rw [← hF]; simp [Txt.fold]; rfl
  obtain ⟨kt, hkt⟩ : ∃ kt, bs (Tok.kwText s.data.toList) = kt := ⟨_, rfl⟩
  obtain ⟨a, ha⟩ : ∃ a, Tok.isKw s.data.toList = a := ⟨_, rfl⟩
  rw [hkt, ha]
  replace hN := Lib.hid hN
  replace hF := Lib.hid hF
  replace hkt := Lib.hid hkt
  replace ha := Lib.hid ha
  go_enter Tryd.func12, Tryd.ntmps12
  go_wp2_with fail
  refine (rwords_kw N _ _ hN (by kernel_rfl)).mono ?_
  rintro e w1 ⟨g, c, rfl, hg, hcell, hb1⟩
  go_wp2
  go_loopw [5] (fun iv wr => ∃ i : Nat, iv = .int .i64 (i : Int) ∧ i ≤ N ∧ Hid (∀ j u, j < i → Tok.KWL[j]? = some u → u.map Txt.lower ≠ s.data.toList.map Txt.lower) ∧ Below w1.heap.size w1 wr) (fun iv _ => N - (intOf iv).toNat)
  case atStart => exact ⟨0, by go_num, by omega, Lib.hid (fun j _ h => by omega), Below.refl _ _⟩
  case round =>
    obtain ⟨i, rfl, hi, hno, hb⟩ := hrel
    by_cases hlt : i < N
    · have bL : decide ((i : Int) < (N : Int)) = true := by simp; omega
      obtain ⟨u, hu⟩ : ∃ u, Tok.KWL[i]? = some u := ⟨_, List.getElem?_eq_getElem (by rw [hN.out]; exact hlt)⟩
      have hmem := List.mem_of_getElem? hu
      have hus := kwl_small hmem
      have hce := (hb.cell (p := ⟨g, i, none⟩) hg).trans (hcell i u hu)
      obtain ⟨U, hU⟩ : ∃ U : ByteArray, bs (Txt.fold (bs u).data.toList 1) = U := ⟨_, rfl⟩
      have hUl : U.data.toList = u.map Txt.lower := by rw [← hU]; simp [Txt.fold]; rfl
      have hmatch := Tok.kwl_match (w := s.data.toList) hmem
      obtain ⟨X, hX⟩ : ∃ X : ByteArray, bs u = X := ⟨_, rfl⟩
      rw [hX] at hce hus hU
      replace hU := Lib.hid hU
      have hgw : g < wr.heap.size := Nat.lt_of_lt_of_le hg hb.size
      by_cases he : u.map Txt.lower = s.data.toList.map Txt.lower
      · have bE : (U.toList == F.toList) = true := by rw [beq_iff_eq, Lib.toList_data, Lib.toList_data, hUl, hFl, he]
        obtain ⟨hk, hut⟩ := hmatch.1 he
        have hk' : a = true := ha.out.symm.trans hk
        have hX' : kt = X := by rw [← hkt.out, ← hut, hX]
        subst hk'
        subst hX'
        clear hkt ha
        clear hno hmatch he hut hk hX hu hmem hcell hFl hUl
        go_wp2_with fail
        refine (rfold_is _ _ _ _ hus hU).mono ?_
        rintro e w2 ⟨rfl, hb2⟩
        go_wp2_with fail
        refine (rfold_is _ _ _ _ hs hF).mono ?_
        rintro e w3 ⟨rfl, hb3⟩
        have hb4 := hb2.trans (hb3.mono hb2.size)
        have hce3 := (hb4.cell (p := ⟨g, i, none⟩) hgw).trans hce
        go_wp2
        go_ret2
        exact ⟨rfl, hb1.trans ((hb.trans (hb4.mono hb.size)).mono hb1.size)⟩
      · have bE : (U.toList == F.toList) = false := by
          rw [beq_eq_false_iff_ne, Lib.toList_data, Lib.toList_data, hUl, hFl]; exact he
        have hno' : ∀ j v, j < i + 1 → Tok.KWL[j]? = some v → v.map Txt.lower ≠ s.data.toList.map Txt.lower := by
          intro j v hj hv
          rcases Nat.lt_or_ge j i with h | h
          · exact hno.out j v h hv
          · obtain rfl : j = i := by omega
            rw [hu] at hv; cases hv; exact he
        replace hno' := Lib.hid hno'
        clear hno hmatch he hX hu hmem hcell hFl hUl
        go_wp2_with fail
        refine (rfold_is _ _ _ _ hus hU).mono ?_
        rintro e w2 ⟨rfl, hb2⟩
        go_wp2_with fail
        refine (rfold_is _ _ _ _ hs hF).mono ?_
        rintro e w3 ⟨rfl, hb3⟩
        have hb4 := hb2.trans (hb3.mono hb2.size)
        go_wp2
        go_roundw
        case rel => exact ⟨i + 1, by go_num, by omega, hno', hb.trans (hb4.mono hb.size)⟩
        case measure => simp [intOf]; omega
    · have bL : decide ((i : Int) < (N : Int)) = false := by simp; omega
      have hk : Tok.isKw s.data.toList = false := by
        cases h : Tok.isKw s.data.toList with
        | false => rfl
        | true =>
          have hm : Lib.toUpperA s.data.toList ∈ Tok.KWL := by
            unfold Tok.isKw at h
            simp only [Bool.and_eq_true, decide_eq_true_eq] at h
            exact h.2
          obtain ⟨j, hj⟩ := List.getElem?_of_mem hm
          have hjl : j < Tok.KWL.length := (List.getElem?_eq_some_iff.1 hj).1
          exact absurd ((Tok.kwl_match hm).2 ⟨h, by unfold Tok.kwText; rw [if_pos h]⟩) (hno.out j _ (by rw [hN.out] at hjl; omega) hj)
      have hkt' := hkt
      clear hkt
      have hkt : Tok.kwText s.data.toList = [] := by unfold Tok.kwText; rw [hk]; rfl
      have hk' : a = false := ha.out.symm.trans hk
      have hX' : kt = bs [] := by rw [← hkt'.out, hkt]
      subst hk'
      subst hX'
      clear ha hkt' hno hk hkt hcell hFl
      go_wp2
      go_ret2
      exact ⟨rfl, hb1.trans (hb.mono hb1.size)⟩

theorem rlett_any (c : UInt8) (w : World) :
    Calls Tryd.prog 52 #[.int .u8 (c.toNat : Int)] w fun e w' => e = .returned (.bool (Tok.letter c)) ∧ w = w' := by
  have hc := c.toNat_lt
  go_enter Tryd.func52, Tryd.ntmps52
  go_wp2
  all_goals go_ret
  all_goals (refine ⟨ret_bool ?_, rfl⟩; rw [Bool.eq_iff_iff]; simp [Tok.letter]; omega)
theorem rdig_any (c : UInt8) (w : World) :
    Calls Tryd.prog 53 #[.int .u8 (c.toNat : Int)] w fun e w' => e = .returned (.bool (Tok.digit c)) ∧ w = w' := by
  have hc := c.toNat_lt
  go_enter Tryd.func53, Tryd.ntmps53
  go_wp2
  all_goals go_ret
  all_goals (refine ⟨ret_bool ?_, rfl⟩; rw [Bool.eq_iff_iff]; simp [Tok.digit]; omega)

theorem isName_cons {s : ByteArray} (h : 0 < s.size) : Tok.isName s.data.toList = (decide (s.size ≤ 32) && Tok.letter s[0] && s.data.toList.all Tok.word) := by
  have hc : s.data.toList = s[0] :: s.data.toList.drop 1 := by
    have h' : 0 < s.data.toList.length := h
    have := List.drop_eq_getElem_cons h'
    rw [List.drop_zero] at this
    exact this
  unfold Tok.isName
  rw [hc]; simp only [← hc]
  rfl

set_option maxHeartbeats 1000000 in
theorem risname_any (s : ByteArray) (r : Bool) (w : World) (hs : s.size ≤ 1048576) (hr : Hid (Tok.isName s.data.toList = r)) :
    Calls Tryd.prog 32 #[.string s] w fun e w' => e = .returned (.bool r) ∧ w = w' := by
  have hlen : s.data.toList.length = s.size := rfl
  by_cases h0 : s.size = 0
  · have hl : s.data.toList = [] := List.eq_nil_of_length_eq_zero (by omega)
    have hr' : r = false := by rw [← hr.out, hl]; rfl
    subst hr'
    have bB : decide ((s.size : Int) < 1) = true := by simp; omega
    clear hr hl
    go_enter Tryd.func32, Tryd.ntmps32
    go_wp2
    go_ret
    exact ⟨rfl, rfl⟩
  · have h1 : 0 < s.size := by omega
    have hn := isName_cons h1
    rw [hr.out] at hn
    have bB : decide ((s.size : Int) < 1) = false := by simp; omega
    by_cases h32 : s.size ≤ 32
    · have hB : decide ((s.size : Int) > 32) = false := by simp; omega
      cases hlt : Tok.letter s[0] with
      | false =>
        have hr' : r = false := by rw [hn, hlt]; simp
        subst hr'
        have hcall := rlett_any s[0]
        rw [hlt] at hcall
        clear hr hn
        go_enter Tryd.func32, Tryd.ntmps32
        go_wp2_with (go_at_call 52; refine (hcall _).mono ?_; rintro e w' ⟨rfl, rfl⟩)
        go_ret
        exact ⟨rfl, rfl⟩
      | true =>
        have hcall := rlett_any s[0]
        rw [hlt] at hcall
        rw [hlt, decide_eq_true h32, Bool.true_and, Bool.true_and] at hn
        replace hn := Lib.hid hn
        clear hr
        go_enter Tryd.func32, Tryd.ntmps32
        go_wp2_with (go_at_call 52; refine (hcall _).mono ?_; rintro e w' ⟨rfl, rfl⟩)
        go_loop [3] (fun i => ∃ k : Nat, k ≤ s.size ∧ i = .int .i64 (k : Int) ∧ Hid (r = (s.data.toList.drop k).all Tok.word)) (fun i => s.size - (intOf i).toNat)
        case atStart => exact ⟨0, by omega, by go_num, Lib.hid (by simpa using hn.out)⟩
        case round =>
          obtain ⟨k, hk, rfl, hst⟩ := hrel
          by_cases hkl : k < s.size
          · have bL : decide ((k : Int) < (s.size : Int)) = true := by simp; omega
            have hk' : k < s.data.toList.length := hkl
            have hst' := hst.out
            rw [List.drop_eq_getElem_cons hk', List.all_cons] at hst'
            change r = (Tok.word s[k] && _) at hst'
            have kl := rlett_any s[k]
            have kd := rdig_any s[k]
            cases h1 : Tok.letter s[k] with
            | true =>
              rw [h1] at kl
              have hw : Tok.word s[k] = true := by simp [Tok.word, h1]
              rw [hw, Bool.true_and] at hst'
              replace hst' := Lib.hid hst'
              clear kd hw hst
              go_wp2_with (go_at_call 52; refine (kl _).mono ?_; rintro e w' ⟨rfl, rfl⟩)
              go_round
              case rel => exact ⟨k + 1, by omega, by go_num, hst'⟩
              case measure => simp [intOf]; omega
            | false =>
              rw [h1] at kl
              cases h2 : Tok.digit s[k] with
              | true =>
                rw [h2] at kd
                have hw : Tok.word s[k] = true := by simp [Tok.word, h2]
                rw [hw, Bool.true_and] at hst'
                replace hst' := Lib.hid hst'
                clear hw hst
                go_wp2_with (first
                  | (go_at_call 52; refine (kl _).mono ?_; rintro e w' ⟨rfl, rfl⟩)
                  | (go_at_call 53; refine (kd _).mono ?_; rintro e w' ⟨rfl, rfl⟩))
                go_round
                case rel => exact ⟨k + 1, by omega, by go_num, hst'⟩
                case measure => simp [intOf]; omega
              | false =>
                rw [h2] at kd
                have hw : Tok.word s[k] = false := by simp [Tok.word, h1, h2]
                rw [hw, Bool.false_and] at hst'
                subst hst'
                clear hw hst hn
                go_wp2_with (first
                  | (go_at_call 52; refine (kl _).mono ?_; rintro e w' ⟨rfl, rfl⟩)
                  | (go_at_call 53; refine (kd _).mono ?_; rintro e w' ⟨rfl, rfl⟩))
                go_ret
                exact ⟨rfl, rfl⟩
          · have bL : decide ((k : Int) < (s.size : Int)) = false := by simp; omega
            have hst' := hst.out
            rw [List.drop_eq_nil_of_le (by omega), List.all_nil] at hst'
            subst hst'
            clear hst hn
            go_wp2
            go_ret
            exact ⟨rfl, rfl⟩
    · have hB : decide ((s.size : Int) > 32) = true := by simp; omega
      have hr' : r = false := by rw [hn, decide_eq_false h32]; simp
      subst hr'
      clear hr hn
      go_enter Tryd.func32, Tryd.ntmps32
      go_wp2
      go_ret
      exact ⟨rfl, rfl⟩

theorem rname_any (s : ByteArray) (w : World) (hs : s.size ≤ 1048576) :
    Calls Tryd.prog 14 #[.string s] w fun e w' => e = .returned (.bool (Tok.name s.data.toList)) ∧ Below w.heap.size w w' := by
  have key := rkeyword_any s w hs
  obtain ⟨kt, hkt⟩ : ∃ kt, bs (Tok.kwText s.data.toList) = kt := ⟨_, rfl⟩
  obtain ⟨a, ha⟩ : ∃ a, Tok.isKw s.data.toList = a := ⟨_, rfl⟩
  obtain ⟨b, hb⟩ : ∃ b, Tok.isName s.data.toList = b := ⟨_, rfl⟩
  unfold Tok.name
  rw [hkt, ha] at key
  rw [ha, hb]
  replace hb := Lib.hid hb
  clear hkt ha
  cases b
  all_goals
    go_enter Tryd.func14, Tryd.ntmps14
    go_wp2_with (first
      | (go_at_call 12; refine key.mono ?_; rintro e w1 ⟨rfl, hb1⟩)
      | (go_at_call 32; refine (risname_any _ _ _ hs hb).mono ?_; rintro e w2 ⟨rfl, rfl⟩))
    go_ret
    exact ⟨by simp, hb1⟩

end Go.Proofs.YtaeplgakpacobaaDoor
