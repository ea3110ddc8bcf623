/- Walks: Skip, Quote and Blob of the reference of layer 15. -/
import Derived.Test.YtiiaamkmnbegdaaDoorRef15A
import Derived.Test.YtiiaamkmnbegdaaDoorTok4
namespace Go.Proofs.YtiiaamkmnbegdaaDoor
set_option maxRecDepth 100000
set_option linter.unusedVariables false
set_option linter.unusedSimpArgs false
open Go.RowKit



theorem rquote_any (s : ByteArray) (a : Int) (w : World) (hs : s.size ≤ 4294967296) (h0 : 0 ≤ a) (h1 : a < s.size) :
    Calls Tryd.prog 110 #[.string s, .int .i64 a] w fun e w' => e = .returned (.int .i64 (Tok.fin (Tok.quoted s.data.toList (a.toNat + 1) []).2)) ∧ w = w' := by
  obtain ⟨k0, rfl⟩ := Int.eq_ofNat_of_zero_le h0
  rw [Int.toNat_natCast]
  obtain ⟨q, hq⟩ : ∃ q, Tok.fin (Tok.quoted s.data.toList (k0 + 1) []).2 = q := ⟨_, rfl⟩
  rw [hq]
  replace hq := Lib.hid hq
  go_enter Tryd.func110, Tryd.ntmps110
  go_wp2
  go_loop [1] (fun i => ∃ k : Nat, k ≤ s.size ∧ i = .int .i64 (k : Int) ∧ Hid (∃ acc, Tok.fin (Tok.quoted s.data.toList k acc).2 = q)) (fun i => s.size - (intOf i).toNat)
  case atStart => exact ⟨k0 + 1, by omega, by go_num, Lib.hid ⟨[], hq.out⟩⟩
  case round =>
    obtain ⟨k, hk, rfl, hr⟩ := hrel
    obtain ⟨acc, hr⟩ := hr.out
    clear hq
    by_cases hlt : k < s.size
    · have hlt' : k < s.data.toList.length := hlt
      by_cases hc : s[k].toNat = 39
      · have hcB : ((s[k].toNat : Int) != 39) = false := by simp; omega
        by_cases h2 : k + 1 < s.size
        · have h2B : decide ((k : Int) + 1 < (s.size : Int)) = true := by simp; omega
          by_cases hd : s[k + 1].toNat = 39
          · have hdB : ((s[k + 1].toNat : Int) == 39) = true := by simp; omega
            rw [← Tok.quoted_pair h2 hc hd] at hr
            have hst : Hid (∃ acc, Tok.fin (Tok.quoted s.data.toList (k + 2) acc).2 = q) := Lib.hid ⟨_, hr⟩
            clear hc hd hr
            go_wp2
            go_round
            case rel => exact ⟨k + 2, by omega, by go_num, hst⟩
            case measure => simp [intOf]; omega
          · have hdB : ((s[k + 1].toNat : Int) == 39) = false := by simp; omega
            rw [Tok.quoted_close h2 hc hd] at hr
            replace hr := Lib.hid hr
            clear hc hd
            go_wp2
            go_ret
            exact ⟨ret_int (by rw [← hr.out]; simp [Tok.fin]), rfl⟩
        · have h2B : decide ((k : Int) + 1 < (s.size : Int)) = false := by simp; omega
          rw [Tok.quoted_last hlt' hc h2] at hr
          replace hr := Lib.hid hr
          clear hc
          go_wp2
          go_ret
          exact ⟨ret_int (by rw [← hr.out]; simp [Tok.fin]), rfl⟩
      · have hcB : ((s[k].toNat : Int) != 39) = true := by simp; omega
        rw [← Tok.quoted_byte hlt' hc] at hr
        have hst : Hid (∃ acc, Tok.fin (Tok.quoted s.data.toList (k + 1) acc).2 = q) := Lib.hid ⟨_, hr⟩
        clear hc hr
        go_wp2
        go_round
        case rel => exact ⟨k + 1, by omega, by go_num, hst⟩
        case measure => simp [intOf]; omega
    · rw [Tok.quoted_open (Nat.le_of_not_lt hlt)] at hr
      replace hr := Lib.hid hr
      go_wp2
      go_ret
      exact ⟨ret_int (by rw [← hr.out]; simp [Tok.fin]), rfl⟩

theorem hex_snoc {s : ByteArray} {i k : Nat} (h : k < s.size) (hx : 0 ≤ Tok.hex s[k]) (hh : ∀ m, i ≤ m → m < k → 0 ≤ Tok.hex (s.data.toList.getD m 0)) : ∀ m, i ≤ m → m < k + 1 → 0 ≤ Tok.hex (s.data.toList.getD m 0) := by
  intro m h1 h2
  by_cases he : m = k
  · subst he; rw [getD_byte s m h]; exact hx
  · exact hh m h1 (by omega)

theorem rblob_any (s : ByteArray) (a : Int) (w : World) (hs : s.size ≤ 4294967296) (h0 : 0 ≤ a) (h1 : a < s.size) :
    Calls Tryd.prog 111 #[.string s, .int .i64 a] w fun e w' => e = .returned (.int .i64 (Tok.fin (Tok.blob s.data.toList a.toNat).2)) ∧ w = w' := by
  obtain ⟨i, rfl⟩ := Int.eq_ofNat_of_zero_le h0
  rw [Int.toNat_natCast]
  go_enter Tryd.func111, Tryd.ntmps111
  go_wp2
  go_loop [5, 6] (fun n j => ∃ k : Nat, i + 1 ≤ k ∧ k ≤ s.size ∧ n = .int .i64 ((k - (i + 1) : Nat) : Int) ∧ j = .int .i64 (k : Int) ∧ Hid (∀ m, i + 1 ≤ m → m < k → 0 ≤ Tok.hex (s.data.toList.getD m 0))) (fun _ j => s.size - (intOf j).toNat)
  case atStart => exact ⟨i + 1, by omega, by omega, by rw [Nat.sub_self]; rfl, by go_num, Lib.hid fun m h1 h2 => by omega⟩
  case round =>
    obtain ⟨k, hik, hk, rfl, rfl, hh⟩ := hrel
    obtain ⟨n, hn⟩ : ∃ n, k - (i + 1) = n := ⟨_, rfl⟩
    have hnl : n ≤ s.size := by omega
    have hnn : ((n : Nat) : Int) % 2 = ((n % 2 : Nat) : Int) := by omega
    by_cases hlt : k < s.size
    · have hlt' : k < s.data.toList.length := hlt
      by_cases hc : s[k].toNat = 39
      · have hcB : ((s[k].toNat : Int) == 39) = true := by simp; omega
        have hst := Tok.blob_quote hik hlt' hh.out hc
        rw [hn] at hst ⊢
        clear hc hnn
        replace hst := Lib.hid hst
        replace hn := Lib.hid hn
        by_cases ho : n % 2 = 1
        · have hoB : (((n : Int) % 2) == 1) = true := by simp; omega
          replace ho := Lib.hid ho
          go_wp2
          go_ret
          exact ⟨ret_int (by rw [hst.out, if_pos ho.out]), rfl⟩
        · have hoB : (((n : Int) % 2) == 1) = false := by simp; omega
          replace ho := Lib.hid ho
          go_wp2
          go_ret
          exact ⟨ret_int (by rw [hst.out, if_neg ho.out]), rfl⟩
      · have hcB : ((s[k].toNat : Int) == 39) = false := by simp; omega
        have hhl := Tok.hex_lower s[k]
        by_cases hx : Tok.hex s[k] < 0
        · have hst := Tok.blob_not hik hlt' hh.out hc hx
          rw [hn]
          replace hst := Lib.hid hst
          replace hn := Lib.hid hn
          replace hhl := Lib.hid hhl
          clear hc hnn
          go_wp2_with (first | (go_at_call 140; refine (rlower_any _ _).mono ?_; rintro e w' ⟨rfl, rfl⟩) | (go_at_call 87; refine (nibble_any _ _).mono ?_; rintro e w' ⟨rfl, rfl⟩; rw [hhl.out]))
          go_ret
          exact ⟨ret_int (by rw [hst.out]), rfl⟩
        · have hh2 := hex_snoc hlt (by omega) hh.out
          have hn2 : k + 1 - (i + 1) = n + 1 := by omega
          rw [hn]
          replace hh2 := Lib.hid hh2
          replace hn := Lib.hid hn
          replace hn2 := Lib.hid hn2
          replace hhl := Lib.hid hhl
          clear hc hnn
          go_wp2_with (first | (go_at_call 140; refine (rlower_any _ _).mono ?_; rintro e w' ⟨rfl, rfl⟩) | (go_at_call 87; refine (nibble_any _ _).mono ?_; rintro e w' ⟨rfl, rfl⟩; rw [hhl.out]))
          go_round
          case rel => exact ⟨k + 1, by omega, by omega, by rw [hn2.out]; go_num, by go_num, hh2⟩
          case measure => simp [intOf]; omega
    · have hst := Tok.blob_open (l := s.data.toList) (i := i) (show i + 1 ≤ s.size by omega) (by have := hh.out; rw [show k = s.size by omega] at this; exact this)
      replace hst := Lib.hid hst
      rw [hn]
      replace hn := Lib.hid hn
      clear hnn
      go_wp2
      go_ret
      exact ⟨ret_int (by rw [hst.out]), rfl⟩

end Go.Proofs.YtiiaamkmnbegdaaDoor
