/- Walks: quoted. -/
import Derived.Test.YtaeplgakpacobaaDoorTokW2
set_option maxRecDepth 100000
set_option linter.unusedVariables false
set_option linter.unusedSimpArgs false
namespace Go.Proofs.YtaeplgakpacobaaDoor
open Go.RowKit

theorem u8_info : (Tryd.prog.info? 5).map (fun i => (i.zero, i.size, i.bytes)) = some (some (.int .u8 0), 1, 1) := by kernel_rfl
theorem one_u8 (n : Int) : ∀ u ∈ (#[Value.int .u8 n] : Array Value).toList, u.oneCell' = true := by intro u hu; simp at hu; subst hu; rfl

theorem three_eq {q : List UInt8 × Nat × Bool} {t : List UInt8} {e : Nat} {b : Bool} {n : Int} (h : q = (t, e, b)) (he : n = (e : Int)) : Ending.returned (.tuple #[.string (bs t), .int .i64 n, .bool b]) = .returned (.tuple #[.string (bs q.1), .int .i64 (q.2.1 : Int), .bool q.2.2]) := by
  rw [h, he]

set_option maxHeartbeats 800000 in
theorem quoted_any (s : ByteArray) (a : Int) (w : World) (hs : s.size ≤ 4294967296) (h0 : 0 ≤ a) (h1 : a < s.size) :
    Calls Tryd.prog 62 #[.string s, .int .i64 a] w fun e w' => e = .returned (.tuple #[.string (bs (Tok.quoted s.data.toList (a.toNat + 1) []).1), .int .i64 ((Tok.quoted s.data.toList (a.toNat + 1) []).2.1 : Int), .bool (Tok.quoted s.data.toList (a.toNat + 1) []).2.2]) ∧ Below w.heap.size w w' := by
  obtain ⟨k0, rfl⟩ := Int.eq_ofNat_of_zero_le h0
  rw [Int.toNat_natCast]
  go_enter Tryd.func62, Tryd.ntmps62
  go_wp2
  go_loopw [7, 8] (fun vv i wr => ∃ (v : Value) (k : Nat) (acc : List UInt8), v = vv ∧ k ≤ s.size ∧ acc.length ≤ k ∧ i = .int .i64 k ∧ wr.ownsRow w.heap.size 5 1 v acc.length (bytesC acc) ∧ Below w.heap.size w wr ∧ Hid (Tok.quoted s.data.toList k acc = Tok.quoted s.data.toList (k0 + 1) [])) (fun _ i _ => s.size - (intOf i).toNat)
  case atStart => exact ⟨_, k0 + 1, [], rfl, by omega, by simp, by go_num, World.ownsRow_nil _ _ _ _, Below.refl _ _, rfl⟩
  case round =>
    obtain ⟨v, k, acc, rfl, hk, hacc, rfl, hown, hb, hr⟩ := hrel
    have hcv : ∀ W : World, W.ownsRow w.heap.size 5 1 v acc.length (bytesC acc) → (convert 64 9 v).run Tryd.prog W = .ok (.string (bs acc)) W := fun W h => run_string_own 64 9 5 Tryd.underlying64 Tryd.underlying5 Tryd.underlying9 h
    have hcv := hcv _ hown
    by_cases hlt : k < s.size
    · have hlt' : k < s.data.toList.length := hlt
      by_cases hc : s[k].toNat = 39
      · have hcB : ((s[k].toNat : Int) == 39) = true := by simp; omega
        have hcH := Lib.hid hc
        clear hc
        by_cases h2 : k + 1 < s.size
        · have h2B : (((k : Int) + 1) == (s.size : Int)) = false := by simp; omega
          by_cases hd : s[k + 1].toNat = 39
          · have hdB : ((s[k + 1].toNat : Int) != 39) = false := by simp; omega
            have hdH := Lib.hid hd
            clear hd
            go_wp2_with (at_builtin; go_must (refine wpList_push rfl _ _ 64 rfl w.heap.size 5 Tryd.underlying64 u8_info rfl (by decide) _ _ _ rfl hown _ rfl rfl (one_u8 _) (by omega) (by decide) hb.size ?_); intro v' w1 hown' hb' hv' _)
            go_roundw
            case rel => exact ⟨_, k + 2, acc ++ [s[k + 1]], rfl, by omega, by simp; omega, by go_num, by rw [bytesC_snoc]; simpa using hown', hb.trans hb', (Tok.quoted_pair h2 hcH.out hdH.out).trans hr⟩
            case measure => simp [intOf]; omega
          · have hdB : ((s[k + 1].toNat : Int) != 39) = true := by simp; omega
            have hdH := Lib.hid hd
            clear hd
            go_wp2
            go_ret3
            exact ⟨three_eq (hr.out.symm.trans (Tok.quoted_close h2 hcH.out hdH.out)) (by omega), hb⟩
        · have h2B : (((k : Int) + 1) == (s.size : Int)) = true := by simp; omega
          go_wp2
          go_ret3
          exact ⟨three_eq (hr.out.symm.trans (Tok.quoted_last hlt' hcH.out h2)) (by omega), hb⟩
      · have hcB : ((s[k].toNat : Int) == 39) = false := by simp; omega
        have hcH := Lib.hid hc
        clear hc
        go_wp2_with (at_builtin; go_must (refine wpList_push rfl _ _ 64 rfl w.heap.size 5 Tryd.underlying64 u8_info rfl (by decide) _ _ _ rfl hown _ rfl rfl (one_u8 _) (by omega) (by decide) hb.size ?_); intro v' w1 hown' hb' hv' _)
        go_roundw
        case rel => exact ⟨_, k + 1, acc ++ [s[k]], rfl, by omega, by simp; omega, by go_num, by rw [bytesC_snoc]; simpa using hown', hb.trans hb', (Tok.quoted_byte hlt' hcH.out).trans hr⟩
        case measure => simp [intOf]; omega
    · have hge : s.data.toList.length ≤ k := Nat.le_of_not_lt hlt
      go_wp2
      go_ret3
      exact ⟨three_eq (hr.out.symm.trans (Tok.quoted_open hge)) rfl, hb⟩

end Go.Proofs.YtaeplgakpacobaaDoor
