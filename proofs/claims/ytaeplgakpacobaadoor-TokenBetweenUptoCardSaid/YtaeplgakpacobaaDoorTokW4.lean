/- Walks: hex, blob. -/
import Derived.Test.YtaeplgakpacobaaDoorTokW3
set_option maxRecDepth 100000
set_option linter.unusedVariables false
set_option linter.unusedSimpArgs false
namespace Go.Proofs.YtaeplgakpacobaaDoor
open Go.RowKit

theorem hex_any (c : UInt8) (w : World) :
    Calls Tryd.prog 83 #[.int .u8 (c.toNat : Int)] w fun e w' => e = .returned (.int .i64 (Tok.hex c)) ∧ w = w' := by
  have hc := c.toNat_lt
  have hd : Tok.digit c = true ↔ (48 ≤ c.toNat ∧ c.toNat ≤ 57) := by simp [Tok.digit]
  replace hd := Lib.hid hd
  go_enter Tryd.func83, Tryd.ntmps83
  by_cases hx : Tok.digit c = true
  · have hb := hd.out.1 hx
    go_wp2_with (go_at_call 31; refine (digit_any _ _).mono ?_; rintro e w' ⟨rfl, rfl⟩)
    go_ret
    exact ⟨ret_int (by unfold Tok.hex; rw [if_pos hx]), rfl⟩
  · have hb : ¬ (48 ≤ c.toNat ∧ c.toNat ≤ 57) := fun h => hx (hd.out.2 h)
    have hx' : Tok.digit c = false := by simpa using hx
    go_wp2_with (go_at_call 31; refine (digit_any _ _).mono ?_; rintro e w' ⟨rfl, rfl⟩)
    all_goals go_ret
    all_goals exact ⟨ret_int (by unfold Tok.hex; rw [if_neg hx]; split <;> (first | omega | (split <;> omega))), rfl⟩

/-- two digits to the base 16 as one byte -/
theorem nib (a b : Int) (ha : 0 ≤ a) (ha' : a ≤ 15) (hb : 0 ≤ b) (hb' : b ≤ 15) : bits .or .i64 (a * 16) b % 256 = ((UInt8.ofNat (a.toNat * 16 + b.toNat)).toNat : Int) := by
  obtain ⟨x, rfl⟩ := Int.eq_ofNat_of_zero_le ha
  obtain ⟨y, rfl⟩ := Int.eq_ofNat_of_zero_le hb
  have hx : x < 16 := by omega
  have hy : y < 16 := by omega
  have h : ∀ i : Fin 16, ∀ j : Fin 16, bits .or .i64 ((i.val : Int) * 16) (j.val : Int) % 256 = ((UInt8.ofNat (i.val * 16 + j.val)).toNat : Int) := by decide +kernel
  simpa using h ⟨x, hx⟩ ⟨y, hy⟩

set_option maxHeartbeats 800000 in
theorem blob_any (s : ByteArray) (a : Int) (w : World) (hs : s.size ≤ 4294967296) (h0 : 0 ≤ a) (h1 : a < s.size) :
    Calls Tryd.prog 63 #[.string s, .int .i64 a] w fun e w' => e = .returned (.tuple #[.string (bs (Tok.blob s.data.toList a.toNat).1), .int .i64 ((Tok.blob s.data.toList a.toNat).2.1 : Int), .bool (Tok.blob s.data.toList a.toNat).2.2]) ∧ Below w.heap.size w w' := by
  obtain ⟨k0, rfl⟩ := Int.eq_ofNat_of_zero_le h0
  rw [Int.toNat_natCast]
  have hdat : (s.extract (k0 + 1) s.size).data.toList = s.data.toList.drop (k0 + 1) := by
    rw [Lib.extract_data]; exact List.take_of_length_le (by simp)
  replace hdat := Lib.hid hdat
  obtain ⟨n, hn⟩ : ∃ n, n = Lib.indexByte (s.data.toList.drop (k0 + 1)) 39 := ⟨_, rfl⟩
  have hj' : n < (s.size : Int) - (k0 + 1) := by
    have h1 := Tok.indexByte_lt (s.data.toList.drop (k0 + 1)) 39
    have : (s.data.toList.drop (k0 + 1)).length = s.size - (k0 + 1) := by simp
    omega
  replace hn := Lib.hid hn
  by_cases hneg : n < 0
  · go_enter Tryd.func63, Tryd.ntmps63
    go_wp2_with (go_at_call 61; refine (index_39 _ _).mono ?_; rintro e w' ⟨rfl, rfl⟩; rw [hdat.out, ← hn.out])
    go_ret3
    exact ⟨three_eq (Tok.blob_none (.inl (by rw [← hn.out]; exact hneg))) rfl, Below.refl _ _⟩
  · by_cases hodd : n % 2 = 1
    · have hoddB : (n % 2 == 1) = true := by simp; omega
      have hoddH := Lib.hid hodd
      clear hodd
      go_enter Tryd.func63, Tryd.ntmps63
      go_wp2_with (go_at_call 61; refine (index_39 _ _).mono ?_; rintro e w' ⟨rfl, rfl⟩; rw [hdat.out, ← hn.out])
      go_ret3
      exact ⟨three_eq (Tok.blob_none (.inr (by rw [← hn.out]; exact hoddH.out))) rfl, Below.refl _ _⟩
    · obtain ⟨m, rfl⟩ : ∃ m : Nat, n = 2 * (m : Int) := ⟨(n / 2).toNat, by omega⟩
      clear hodd hneg
      have hno : ¬ (Lib.indexByte (s.data.toList.drop (k0 + 1)) 39 < 0 ∨ Lib.indexByte (s.data.toList.drop (k0 + 1)) 39 % 2 = 1) := by rw [← hn.out]; omega
      replace hno := Lib.hid hno
      go_enter Tryd.func63, Tryd.ntmps63
      go_wp2_with (go_at_call 61; refine (index_39 _ _).mono ?_; rintro e w' ⟨rfl, rfl⟩; rw [hdat.out, ← hn.out])
      go_loopw [8, 9] (fun vv i wr => ∃ (v : Value) (k j : Nat) (acc : List UInt8), v = vv ∧ k = k0 + 1 + 2 * j ∧ j ≤ m ∧ acc.length ≤ j ∧ i = .int .i64 (k : Int) ∧ wr.ownsRow w.heap.size 5 1 v acc.length (bytesC acc) ∧ Below w.heap.size w wr ∧ Hid (Tok.pairs s.data.toList k (k0 + 1 + 2 * m) acc = Tok.pairs s.data.toList (k0 + 1) (k0 + 1 + 2 * m) [])) (fun _ i _ => k0 + 2 + 2 * m - (intOf i).toNat)
      case atStart => exact ⟨_, k0 + 1, 0, [], rfl, by omega, by omega, by simp, by go_num, World.ownsRow_nil _ _ _ _, Below.refl _ _, rfl⟩
      case round =>
        obtain ⟨v, k, j, acc, rfl, hk, hj, hacc, rfl, hown, hb, hr⟩ := hrel
        have hk1 : k ≤ k0 + 1 + 2 * j := by omega
        have hk2 : k0 + 1 + 2 * j ≤ k := by omega
        clear hk
        by_cases hlt : j < m
        · have hsz : k + 1 < s.size := by omega
          have hca := Tok.hex_le s[k]
          have hcb := Tok.hex_le s[k + 1]
          have ga := getD_byte s k (by omega)
          have gb := getD_byte s (k + 1) (by omega)
          replace ga := Lib.hid ga
          replace gb := Lib.hid gb
          have q1 : IntKind.i64.wrap ((k : Int) + 1) = (k : Int) + 1 := IntWalk.i64_in _ (by omega)
          have q2 : (0 : Int) ≤ (k : Int) + 1 := by omega
          have q3 : (k : Int) + 1 < (s.size : Int) := by omega
          have q4 : ((k : Int) + 1).toNat = k + 1 := by omega
          have q5 : (k : Int) < (s.size : Int) := by omega
          go_wp2_with fail
          go_quiet (first
            | (go_at_call_of 83 (Value.int .u8 (s[k].toNat : Int)); exact quiet_mine (hex_any _ _))
            | (go_at_call 83; exact quiet_mine (hex_any _ _)))
          clear q1
          obtain ⟨w2, hw2⟩ : ∃ w2, w2 = wr.drewN nq := ⟨_, rfl⟩
          rw [← hw2]
          have hown2 : w2.ownsRow w.heap.size 5 1 v acc.length (bytesC acc) := by rw [hw2]; exact ownsRow_drewN hown nq
          have hb2 : Below w.heap.size w w2 := by rw [hw2]; exact below_drewN hb nq
          clear hw2 hown hb
          by_cases ha : Tok.hex s[k] < 0
          · go_wp2
            go_ret3
            exact ⟨three_eq (Tok.blob_bad hno.out (by rw [show (Lib.indexByte (s.data.toList.drop (k0 + 1)) 39).toNat = 2 * m from by rw [← hn.out]; omega, ← hr.out]; exact Tok.pairs_bad (by omega) (.inl (by rw [ga.out]; exact ha)))) rfl, hb2⟩
          · by_cases hbn : Tok.hex s[k + 1] < 0
            · go_wp2
              go_ret3
              exact ⟨three_eq (Tok.blob_bad hno.out (by rw [show (Lib.indexByte (s.data.toList.drop (k0 + 1)) 39).toNat = 2 * m from by rw [← hn.out]; omega, ← hr.out]; exact Tok.pairs_bad (by omega) (.inr (by rw [gb.out]; exact hbn)))) rfl, hb2⟩
            · go_wp2_with (at_builtin; go_must (refine wpList_push rfl _ _ 64 rfl w.heap.size 5 Tryd.underlying64 u8_info rfl (by decide) _ _ _ rfl hown2 _ rfl rfl (one_u8 _) (by omega) (by decide) hb2.size ?_); intro v' w1 hown' hb' hv' _)
              have hst := Tok.pairs_step (l := s.data.toList) (i := k) (e := k0 + 1 + 2 * m) (acc := acc) (by omega) (by rw [ga.out]; omega) (by rw [gb.out]; omega)
              rw [ga.out, gb.out] at hst
              rw [nib _ _ (by omega) hca.2 (by omega) hcb.2] at hown'
              go_roundw
              case rel => exact ⟨_, k + 2, j + 1, _, rfl, by omega, by omega, by simp; omega, by go_num, by rw [bytesC_snoc]; simpa using hown', hb2.trans hb', hst.trans hr⟩
              case measure => simp [intOf]; omega
        · have hkm : k = k0 + 1 + 2 * m := by omega
          have hkm' := Lib.hid hkm
          clear hkm
          have hcv := run_string_own (P := Tryd.prog) 64 9 5 Tryd.underlying64 Tryd.underlying5 Tryd.underlying9 hown
          go_wp2
          go_ret3
          have e : (Lib.indexByte (s.data.toList.drop (k0 + 1)) 39).toNat = 2 * m := by rw [← hn.out]; omega
          exact ⟨three_eq (Tok.blob_some (b := acc) hno.out (by rw [e, ← hr.out, hkm'.out]; exact Tok.pairs_end (Nat.le_refl _))) (by omega), hb⟩

end Go.Proofs.YtaeplgakpacobaaDoor
