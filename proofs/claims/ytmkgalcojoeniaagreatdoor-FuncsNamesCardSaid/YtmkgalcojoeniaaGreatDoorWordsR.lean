/- Walks: the reference's words, keywords and names. -/
import Derived.Test.YtmkgalcojoeniaaGreatDoorFoldW
import Derived.Test.YtmkgalcojoeniaaGreatDoorWords2
import Derived.Test.YtmkgalcojoeniaaGreatDoorStrs
import Derived.Test.YtmkgalcojoeniaaGreatDoorBelow
set_option maxRecDepth 100000
set_option linter.unusedVariables false
set_option linter.unusedSimpArgs false
namespace Go.Proofs.YtmkgalcojoeniaaGreatDoor
open Go.RowKit Go.Lib

/-- the words of a text, as the reference's loop has them at byte i: those before, and the one that is being read -/
theorem words_at {l : List UInt8} {i f : Nat} {o R : List (List UInt8)} (hi : i < l.length) (hf : f ≤ i) (h : o ++ Tok.words (l.drop i) ((l.take i).drop f) = R) :
    (l[i] = 32 → i ≤ f → o ++ Tok.words (l.drop (i + 1)) ((l.take (i + 1)).drop (i + 1)) = R) ∧
    (l[i] = 32 → f < i → (o ++ [(l.take i).drop f]) ++ Tok.words (l.drop (i + 1)) ((l.take (i + 1)).drop (i + 1)) = R) ∧
    (l[i] ≠ 32 → o ++ Tok.words (l.drop (i + 1)) ((l.take (i + 1)).drop f) = R) := by
  have hd := List.drop_eq_getElem_cons hi
  have ht := List.take_succ_eq_append_getElem hi
  have hlen : (l.take i).length = i := by simp; omega
  have hz : (l.take (i + 1)).drop (i + 1) = [] := List.drop_eq_nil_of_le (by simp; omega)
  rw [hd] at h
  refine ⟨fun h1 h2 => ?_, fun h1 h2 => ?_, fun h1 => ?_⟩
  · have hn : (l.take i).drop f = [] := List.drop_eq_nil_of_le (by omega)
    rw [hn, Tok.words_gap _ h1] at h
    rw [hz]; exact h
  · have hn : (l.take i).drop f ≠ [] := by
      intro h3
      have := congrArg List.length h3
      rw [List.length_drop, hlen] at this
      simp at this; omega
    rw [Tok.words_word _ h1 hn] at h
    rw [hz, List.append_assoc]; exact h
  · rw [Tok.words_byte _ _ h1] at h
    rw [ht, List.drop_append_of_le_length (by omega)]; exact h
theorem words_end {l : List UInt8} {i f : Nat} {o R : List (List UInt8)} (hi : i = l.length) (hf : f ≤ i) (h : o ++ Tok.words (l.drop i) ((l.take i).drop f) = R) :
    (i ≤ f → o = R) ∧ (f < i → o ++ [(l.take i).drop f] = R) := by
  subst hi
  rw [List.drop_length, List.take_length] at h
  rw [List.take_length]
  refine ⟨fun h2 => ?_, fun h2 => ?_⟩
  · rw [List.drop_eq_nil_of_le (by omega)] at h
    simpa [Tok.words] using h
  · have hn : l.drop f ≠ [] := by
      intro h3
      have := congrArg List.length h3
      simp at this; omega
    rwa [Tok.words, if_neg hn] at h

set_option maxHeartbeats 1000000 in
theorem rwords_any (s : ByteArray) (R : List (List UInt8)) (w : World) (hs : s.size ≤ 1048576) (hR : Hid (Tok.words s.data.toList [] = R)) :
    Calls Tryz.prog 39 #[.string s] w fun e w' => ∃ v, e = .returned v ∧ w'.ownsRow w.heap.size 9 1 v R.length (strC R) ∧ Below w.heap.size w w' := by
  have hlen : s.data.toList.length = s.size := rfl
  go_enter Tryz.func39, Tryz.ntmps39
  go_wp2
  go_loopw [3, 4, 5] (fun vo vf iv wr => ∃ (v : Value) (f i : Nat) (o : List (List UInt8)), v = vo ∧ vf = .int .i64 (f : Int) ∧ iv = .int .i64 (i : Int) ∧ o.length ≤ i ∧ i ≤ s.size + 1 ∧ Hid ((i ≤ s.size ∧ f ≤ i ∧ o ++ Tok.words (s.data.toList.drop i) ((s.data.toList.take i).drop f) = R) ∨ (i = s.size + 1 ∧ o = R)) ∧ wr.ownsRow w.heap.size 9 1 v o.length (strC o) ∧ Below w.heap.size w wr) (fun _ _ iv _ => s.size + 1 - (Go.RowKit.intOf iv).toNat)
  case atStart => exact ⟨_, 0, 0, [], rfl, by go_num, by go_num, by simp, by omega, Lib.hid (.inl ⟨by omega, by omega, by simpa using hR.out⟩), World.ownsRow_nil _ _ _ _, Below.refl _ _⟩
  case round =>
    obtain ⟨v, f, i, o, rfl, rfl, rfl, hol, hin, hst, hown, hb⟩ := hrel
    rcases hst.out with ⟨hi, hf, he⟩ | ⟨hi, he⟩
    · have bL : decide ((i : Int) ≤ (s.size : Int)) = true := by simp; omega
      have hbytes : (o.length + 1) * 16 ≤ 140737488355328 := by omega
      have hslice : ∀ k, (s.extract f k) = bs ((s.data.toList.take k).drop f) := fun k => by rw [← bs_of (s.extract f k), Lib.extract_data, List.drop_take]
      by_cases hfi : f < i
      · have bF : decide ((i : Int) > (f : Int)) = true := by simp; omega
        by_cases hlt : i < s.size
        · have bN : ((i : Int) == (s.size : Int)) = false := by simp; omega
          have hlt' : i < s.data.toList.length := hlt
          by_cases hc : s[i] = 32
          · have b32 : ((s[i].toNat : Int) == 32) = true := by rw [hc]; rfl
            have hn := (words_at hlt' hf he).2.1 hc hfi
            replace hn := Lib.hid hn
            replace hslice := Lib.hid hslice
            clear he hst hc
            go_wp2_with (at_builtin; go_must (refine wpList_push rfl _ _ 37 rfl w.heap.size 9 Tryz.underlying37 str_info rfl (by decide) _ _ _ rfl hown _ rfl rfl (one_str _) hbytes (by decide) hb.size ?_); intro v' w1 hown' hb' hv' _)
            go_roundw
            case rel => exact ⟨_, i + 1, i + 1, o ++ [(s.data.toList.take i).drop f], rfl, by go_num, by go_num, by simp; omega, by omega, Lib.hid (.inl ⟨by omega, by omega, hn.out⟩), by rw [strC_snoc, ← hslice.out]; simpa using hown', hb.trans hb'⟩
            case measure => simp [Go.RowKit.intOf]; omega
          · have b32 : ((s[i].toNat : Int) == 32) = false := by
              rw [beq_eq_false_iff_ne]; intro h
              exact hc (UInt8.toNat_inj.1 (by simpa using (Int.ofNat.inj h)))
            have hn := (words_at hlt' hf he).2.2 hc
            replace hn := Lib.hid hn
            clear he hst hc hslice
            go_wp2
            go_roundw
            case rel => exact ⟨_, f, i + 1, o, rfl, rfl, by go_num, by omega, by omega, Lib.hid (.inl ⟨by omega, by omega, hn.out⟩), hown, hb⟩
            case measure => simp [Go.RowKit.intOf]; omega
        · have hie : i = s.size := by omega
          have bN : ((i : Int) == (s.size : Int)) = true := by simp; omega
          have hn := (words_end (hie.trans hlen.symm) hf he).2 hfi
          replace hn := Lib.hid hn
          replace hslice := Lib.hid hslice
          clear he hst
          go_wp2_with (at_builtin; go_must (refine wpList_push rfl _ _ 37 rfl w.heap.size 9 Tryz.underlying37 str_info rfl (by decide) _ _ _ rfl hown _ rfl rfl (one_str _) hbytes (by decide) hb.size ?_); intro v' w1 hown' hb' hv' _)
          go_roundw
          case rel => exact ⟨_, i + 1, i + 1, o ++ [(s.data.toList.take i).drop f], rfl, by go_num, by go_num, by simp; omega, by omega, Lib.hid (.inr ⟨by omega, hn.out⟩), by rw [strC_snoc, ← hslice.out]; simpa [hie] using hown', hb.trans hb'⟩
          case measure => simp [Go.RowKit.intOf]; omega
      · have bF : decide ((i : Int) > (f : Int)) = false := by simp; omega
        clear hslice
        by_cases hlt : i < s.size
        · have bN : ((i : Int) == (s.size : Int)) = false := by simp; omega
          have hlt' : i < s.data.toList.length := hlt
          by_cases hc : s[i] = 32
          · have b32 : ((s[i].toNat : Int) == 32) = true := by rw [hc]; rfl
            have hn := (words_at hlt' hf he).1 hc (by omega)
            replace hn := Lib.hid hn
            clear he hst hc
            go_wp2
            go_roundw
            case rel => exact ⟨_, i + 1, i + 1, o, rfl, by go_num, by go_num, by omega, by omega, Lib.hid (.inl ⟨by omega, by omega, hn.out⟩), hown, hb⟩
            case measure => simp [Go.RowKit.intOf]; omega
          · have b32 : ((s[i].toNat : Int) == 32) = false := by
              rw [beq_eq_false_iff_ne]; intro h
              exact hc (UInt8.toNat_inj.1 (by simpa using (Int.ofNat.inj h)))
            have hn := (words_at hlt' hf he).2.2 hc
            replace hn := Lib.hid hn
            clear he hst hc
            go_wp2
            go_roundw
            case rel => exact ⟨_, f, i + 1, o, rfl, rfl, by go_num, by omega, by omega, Lib.hid (.inl ⟨by omega, by omega, hn.out⟩), hown, hb⟩
            case measure => simp [Go.RowKit.intOf]; omega
        · have hie : i = s.size := by omega
          have bN : ((i : Int) == (s.size : Int)) = true := by simp; omega
          have hn := (words_end (hie.trans hlen.symm) hf he).1 (by omega)
          replace hn := Lib.hid hn
          clear he hst
          go_wp2
          go_roundw
          case rel => exact ⟨_, i + 1, i + 1, o, rfl, by go_num, by go_num, by omega, by omega, Lib.hid (.inr ⟨by omega, hn.out⟩), hown, hb⟩
          case measure => simp [Go.RowKit.intOf]; omega
    · have bL : decide ((i : Int) ≤ (s.size : Int)) = false := by simp; omega
      subst he
      clear hst
      go_wp2
      go_ret
      exact ⟨_, rfl, hown, hb⟩

end Go.Proofs.YtmkgalcojoeniaaGreatDoor
