/- Walks: Has, Nulls of the reference of layer 18. Walks: Call of the reference of layer 18. Walks: Call of the reference of layer 18, joined. Walks: Call of the reference of layer 18, of any name and values. The law FuncsCall. -/
import Derived.Test.YtmkgalcojoeniaaGreatDoorFrA
import Derived.Test.YtmkgalcojoeniaaGreatDoorFrC
import Derived.Test.YtmkgalcojoeniaaGreatDoorFcC
import Derived.Test.YtmkgalcojoeniaaGreatDoorVCopy
set_option maxRecDepth 100000
set_option linter.unusedVariables false
set_option linter.unusedSimpArgs false
namespace Go.Proofs.YtmkgalcojoeniaaGreatDoor
open Go.RowKit

/-- has a function of the table so many arguments? -/
def fitsB (k : Nat) (n : Int) : Bool := decide (fleasts.getD k 0 ≤ n) && (decide (fmosts.getD k 0 < 0) || decide (n ≤ fmosts.getD k 0))
theorem fits_lower (nm : List UInt8) (n : Int) (k : Nat) (hk : k < 20) : fits nm n k = (decide (nm.map Txt.lower = fnames.getD k []) && fitsB k n) := by
  unfold fits fitsB
  rw [Bool.and_assoc]
  congr 1
  have e : Val.texts (fname k).data.toList nm 1 = Lib.compareBytes ((fnames.getD k []).map Txt.lower) (nm.map Txt.lower) := rfl
  have hl : (fnames.getD k []).map Txt.lower = fnames.getD k [] := by
    match k, hk with
    | 0, _ => rfl
    | 1, _ => rfl
    | 2, _ => rfl
    | 3, _ => rfl
    | 4, _ => rfl
    | 5, _ => rfl
    | 6, _ => rfl
    | 7, _ => rfl
    | 8, _ => rfl
    | 9, _ => rfl
    | 10, _ => rfl
    | 11, _ => rfl
    | 12, _ => rfl
    | 13, _ => rfl
    | 14, _ => rfl
    | 15, _ => rfl
    | 16, _ => rfl
    | 17, _ => rfl
    | 18, _ => rfl
    | 19, _ => rfl
    | k + 20, h => omega
  rw [e, hl, Bool.eq_iff_iff, beq_iff_eq, decide_eq_true_iff, Val.cb_zero]
  exact eq_comm
theorem rhas18_abs (n : Int) (w : World) (r : Bool) (hr : Hid (fitsB 0 n = r)) : Calls Tryz.prog 14 #[.string ⟨#[97, 98, 115]⟩, .int .i64 n] w fun e w' => e = .returned (.bool r) ∧ w = w' := by
  have hr2 : (decide ((1 : Int) ≤ n) && (decide ((1 : Int) < 0) || decide (n ≤ (1 : Int)))) = r := hr.out
  by_cases h : n = 1
  · subst h
    obtain rfl : true = r := hr2
    (try clear hr2); clear hr
    go_enter Tryz.func14, Tryz.ntmps14
    go_wp2
    go_ret
    exact ⟨rfl, rfl⟩
  · have b : (n == 1) = false := by simpa using h
    obtain rfl : false = r := by rw [← hr2]; simp; omega
    (try clear hr2); clear hr h
    go_enter Tryz.func14, Tryz.ntmps14
    go_wp2
    go_ret
    exact ⟨rfl, rfl⟩
theorem rhas18_coalesce (n : Int) (w : World) (r : Bool) (hr : Hid (fitsB 1 n = r)) : Calls Tryz.prog 14 #[.string ⟨#[99, 111, 97, 108, 101, 115, 99, 101]⟩, .int .i64 n] w fun e w' => e = .returned (.bool r) ∧ w = w' := by
  have hr2 : (decide ((2 : Int) ≤ n) && (decide ((-1 : Int) < 0) || decide (n ≤ (-1 : Int)))) = r := hr.out
  by_cases h : n ≥ 2
  · have b : decide (n ≥ 2) = true := decide_eq_true h
    obtain rfl : true = r := by rw [← hr2]; simp; omega
    (try clear hr2); clear hr
    go_enter Tryz.func14, Tryz.ntmps14
    go_wp2
    go_ret
    exact ⟨rfl, rfl⟩
  · have b : decide (n ≥ 2) = false := decide_eq_false h
    obtain rfl : false = r := by rw [← hr2]; simp; omega
    (try clear hr2); clear hr h
    go_enter Tryz.func14, Tryz.ntmps14
    go_wp2
    go_ret
    exact ⟨rfl, rfl⟩
theorem rhas18_hex (n : Int) (w : World) (r : Bool) (hr : Hid (fitsB 2 n = r)) : Calls Tryz.prog 14 #[.string ⟨#[104, 101, 120]⟩, .int .i64 n] w fun e w' => e = .returned (.bool r) ∧ w = w' := by
  have hr2 : (decide ((1 : Int) ≤ n) && (decide ((1 : Int) < 0) || decide (n ≤ (1 : Int)))) = r := hr.out
  by_cases h : n = 1
  · subst h
    obtain rfl : true = r := hr2
    (try clear hr2); clear hr
    go_enter Tryz.func14, Tryz.ntmps14
    go_wp2
    go_ret
    exact ⟨rfl, rfl⟩
  · have b : (n == 1) = false := by simpa using h
    obtain rfl : false = r := by rw [← hr2]; simp; omega
    (try clear hr2); clear hr h
    go_enter Tryz.func14, Tryz.ntmps14
    go_wp2
    go_ret
    exact ⟨rfl, rfl⟩
theorem rhas18_ifnull (n : Int) (w : World) (r : Bool) (hr : Hid (fitsB 3 n = r)) : Calls Tryz.prog 14 #[.string ⟨#[105, 102, 110, 117, 108, 108]⟩, .int .i64 n] w fun e w' => e = .returned (.bool r) ∧ w = w' := by
  have hr2 : (decide ((2 : Int) ≤ n) && (decide ((2 : Int) < 0) || decide (n ≤ (2 : Int)))) = r := hr.out
  by_cases h : n = 2
  · subst h
    obtain rfl : true = r := hr2
    (try clear hr2); clear hr
    go_enter Tryz.func14, Tryz.ntmps14
    go_wp2
    go_ret
    exact ⟨rfl, rfl⟩
  · have b : (n == 2) = false := by simpa using h
    obtain rfl : false = r := by rw [← hr2]; simp; omega
    (try clear hr2); clear hr h
    go_enter Tryz.func14, Tryz.ntmps14
    go_wp2
    go_ret
    exact ⟨rfl, rfl⟩
theorem rhas18_iif (n : Int) (w : World) (r : Bool) (hr : Hid (fitsB 4 n = r)) : Calls Tryz.prog 14 #[.string ⟨#[105, 105, 102]⟩, .int .i64 n] w fun e w' => e = .returned (.bool r) ∧ w = w' := by
  have hr2 : (decide ((3 : Int) ≤ n) && (decide ((3 : Int) < 0) || decide (n ≤ (3 : Int)))) = r := hr.out
  by_cases h : n = 3
  · subst h
    obtain rfl : true = r := hr2
    (try clear hr2); clear hr
    go_enter Tryz.func14, Tryz.ntmps14
    go_wp2
    go_ret
    exact ⟨rfl, rfl⟩
  · have b : (n == 3) = false := by simpa using h
    obtain rfl : false = r := by rw [← hr2]; simp; omega
    (try clear hr2); clear hr h
    go_enter Tryz.func14, Tryz.ntmps14
    go_wp2
    go_ret
    exact ⟨rfl, rfl⟩
theorem rhas18_instr (n : Int) (w : World) (r : Bool) (hr : Hid (fitsB 5 n = r)) : Calls Tryz.prog 14 #[.string ⟨#[105, 110, 115, 116, 114]⟩, .int .i64 n] w fun e w' => e = .returned (.bool r) ∧ w = w' := by
  have hr2 : (decide ((2 : Int) ≤ n) && (decide ((2 : Int) < 0) || decide (n ≤ (2 : Int)))) = r := hr.out
  by_cases h : n = 2
  · subst h
    obtain rfl : true = r := hr2
    (try clear hr2); clear hr
    go_enter Tryz.func14, Tryz.ntmps14
    go_wp2
    go_ret
    exact ⟨rfl, rfl⟩
  · have b : (n == 2) = false := by simpa using h
    obtain rfl : false = r := by rw [← hr2]; simp; omega
    (try clear hr2); clear hr h
    go_enter Tryz.func14, Tryz.ntmps14
    go_wp2
    go_ret
    exact ⟨rfl, rfl⟩
theorem rhas18_length (n : Int) (w : World) (r : Bool) (hr : Hid (fitsB 6 n = r)) : Calls Tryz.prog 14 #[.string ⟨#[108, 101, 110, 103, 116, 104]⟩, .int .i64 n] w fun e w' => e = .returned (.bool r) ∧ w = w' := by
  have hr2 : (decide ((1 : Int) ≤ n) && (decide ((1 : Int) < 0) || decide (n ≤ (1 : Int)))) = r := hr.out
  by_cases h : n = 1
  · subst h
    obtain rfl : true = r := hr2
    (try clear hr2); clear hr
    go_enter Tryz.func14, Tryz.ntmps14
    go_wp2
    go_ret
    exact ⟨rfl, rfl⟩
  · have b : (n == 1) = false := by simpa using h
    obtain rfl : false = r := by rw [← hr2]; simp; omega
    (try clear hr2); clear hr h
    go_enter Tryz.func14, Tryz.ntmps14
    go_wp2
    go_ret
    exact ⟨rfl, rfl⟩
theorem rhas18_lower (n : Int) (w : World) (r : Bool) (hr : Hid (fitsB 7 n = r)) : Calls Tryz.prog 14 #[.string ⟨#[108, 111, 119, 101, 114]⟩, .int .i64 n] w fun e w' => e = .returned (.bool r) ∧ w = w' := by
  have hr2 : (decide ((1 : Int) ≤ n) && (decide ((1 : Int) < 0) || decide (n ≤ (1 : Int)))) = r := hr.out
  by_cases h : n = 1
  · subst h
    obtain rfl : true = r := hr2
    (try clear hr2); clear hr
    go_enter Tryz.func14, Tryz.ntmps14
    go_wp2
    go_ret
    exact ⟨rfl, rfl⟩
  · have b : (n == 1) = false := by simpa using h
    obtain rfl : false = r := by rw [← hr2]; simp; omega
    (try clear hr2); clear hr h
    go_enter Tryz.func14, Tryz.ntmps14
    go_wp2
    go_ret
    exact ⟨rfl, rfl⟩
theorem rhas18_ltrim (n : Int) (w : World) (r : Bool) (hr : Hid (fitsB 8 n = r)) : Calls Tryz.prog 14 #[.string ⟨#[108, 116, 114, 105, 109]⟩, .int .i64 n] w fun e w' => e = .returned (.bool r) ∧ w = w' := by
  have hr2 : (decide ((1 : Int) ≤ n) && (decide ((2 : Int) < 0) || decide (n ≤ (2 : Int)))) = r := hr.out
  by_cases h : n = 1
  · subst h
    obtain rfl : true = r := hr2
    (try clear hr2); clear hr
    go_enter Tryz.func14, Tryz.ntmps14
    go_wp2
    go_ret
    exact ⟨rfl, rfl⟩
  · have b : (n == 1) = false := by simpa using h
    by_cases h2 : n = 2
    · subst h2
      obtain rfl : true = r := hr2
      (try clear hr2); clear hr h
      go_enter Tryz.func14, Tryz.ntmps14
      go_wp2
      go_ret
      exact ⟨rfl, rfl⟩
    · have b2 : (n == 2) = false := by simpa using h2
      obtain rfl : false = r := by rw [← hr2]; simp; omega
      (try clear hr2)
      clear hr h h2
      go_enter Tryz.func14, Tryz.ntmps14
      go_wp2
      go_ret
      exact ⟨rfl, rfl⟩
theorem rhas18_max (n : Int) (w : World) (r : Bool) (hr : Hid (fitsB 9 n = r)) : Calls Tryz.prog 14 #[.string ⟨#[109, 97, 120]⟩, .int .i64 n] w fun e w' => e = .returned (.bool r) ∧ w = w' := by
  have hr2 : (decide ((2 : Int) ≤ n) && (decide ((-1 : Int) < 0) || decide (n ≤ (-1 : Int)))) = r := hr.out
  by_cases h : n ≥ 2
  · have b : decide (n ≥ 2) = true := decide_eq_true h
    obtain rfl : true = r := by rw [← hr2]; simp; omega
    (try clear hr2); clear hr
    go_enter Tryz.func14, Tryz.ntmps14
    go_wp2
    go_ret
    exact ⟨rfl, rfl⟩
  · have b : decide (n ≥ 2) = false := decide_eq_false h
    obtain rfl : false = r := by rw [← hr2]; simp; omega
    (try clear hr2); clear hr h
    go_enter Tryz.func14, Tryz.ntmps14
    go_wp2
    go_ret
    exact ⟨rfl, rfl⟩
theorem rhas18_min (n : Int) (w : World) (r : Bool) (hr : Hid (fitsB 10 n = r)) : Calls Tryz.prog 14 #[.string ⟨#[109, 105, 110]⟩, .int .i64 n] w fun e w' => e = .returned (.bool r) ∧ w = w' := by
  have hr2 : (decide ((2 : Int) ≤ n) && (decide ((-1 : Int) < 0) || decide (n ≤ (-1 : Int)))) = r := hr.out
  by_cases h : n ≥ 2
  · have b : decide (n ≥ 2) = true := decide_eq_true h
    obtain rfl : true = r := by rw [← hr2]; simp; omega
    (try clear hr2); clear hr
    go_enter Tryz.func14, Tryz.ntmps14
    go_wp2
    go_ret
    exact ⟨rfl, rfl⟩
  · have b : decide (n ≥ 2) = false := decide_eq_false h
    obtain rfl : false = r := by rw [← hr2]; simp; omega
    (try clear hr2); clear hr h
    go_enter Tryz.func14, Tryz.ntmps14
    go_wp2
    go_ret
    exact ⟨rfl, rfl⟩
theorem rhas18_nullif (n : Int) (w : World) (r : Bool) (hr : Hid (fitsB 11 n = r)) : Calls Tryz.prog 14 #[.string ⟨#[110, 117, 108, 108, 105, 102]⟩, .int .i64 n] w fun e w' => e = .returned (.bool r) ∧ w = w' := by
  have hr2 : (decide ((2 : Int) ≤ n) && (decide ((2 : Int) < 0) || decide (n ≤ (2 : Int)))) = r := hr.out
  by_cases h : n = 2
  · subst h
    obtain rfl : true = r := hr2
    (try clear hr2); clear hr
    go_enter Tryz.func14, Tryz.ntmps14
    go_wp2
    go_ret
    exact ⟨rfl, rfl⟩
  · have b : (n == 2) = false := by simpa using h
    obtain rfl : false = r := by rw [← hr2]; simp; omega
    (try clear hr2); clear hr h
    go_enter Tryz.func14, Tryz.ntmps14
    go_wp2
    go_ret
    exact ⟨rfl, rfl⟩
theorem rhas18_quote (n : Int) (w : World) (r : Bool) (hr : Hid (fitsB 12 n = r)) : Calls Tryz.prog 14 #[.string ⟨#[113, 117, 111, 116, 101]⟩, .int .i64 n] w fun e w' => e = .returned (.bool r) ∧ w = w' := by
  have hr2 : (decide ((1 : Int) ≤ n) && (decide ((1 : Int) < 0) || decide (n ≤ (1 : Int)))) = r := hr.out
  by_cases h : n = 1
  · subst h
    obtain rfl : true = r := hr2
    (try clear hr2); clear hr
    go_enter Tryz.func14, Tryz.ntmps14
    go_wp2
    go_ret
    exact ⟨rfl, rfl⟩
  · have b : (n == 1) = false := by simpa using h
    obtain rfl : false = r := by rw [← hr2]; simp; omega
    (try clear hr2); clear hr h
    go_enter Tryz.func14, Tryz.ntmps14
    go_wp2
    go_ret
    exact ⟨rfl, rfl⟩
theorem rhas18_replace (n : Int) (w : World) (r : Bool) (hr : Hid (fitsB 13 n = r)) : Calls Tryz.prog 14 #[.string ⟨#[114, 101, 112, 108, 97, 99, 101]⟩, .int .i64 n] w fun e w' => e = .returned (.bool r) ∧ w = w' := by
  have hr2 : (decide ((3 : Int) ≤ n) && (decide ((3 : Int) < 0) || decide (n ≤ (3 : Int)))) = r := hr.out
  by_cases h : n = 3
  · subst h
    obtain rfl : true = r := hr2
    (try clear hr2); clear hr
    go_enter Tryz.func14, Tryz.ntmps14
    go_wp2
    go_ret
    exact ⟨rfl, rfl⟩
  · have b : (n == 3) = false := by simpa using h
    obtain rfl : false = r := by rw [← hr2]; simp; omega
    (try clear hr2); clear hr h
    go_enter Tryz.func14, Tryz.ntmps14
    go_wp2
    go_ret
    exact ⟨rfl, rfl⟩
theorem rhas18_rtrim (n : Int) (w : World) (r : Bool) (hr : Hid (fitsB 14 n = r)) : Calls Tryz.prog 14 #[.string ⟨#[114, 116, 114, 105, 109]⟩, .int .i64 n] w fun e w' => e = .returned (.bool r) ∧ w = w' := by
  have hr2 : (decide ((1 : Int) ≤ n) && (decide ((2 : Int) < 0) || decide (n ≤ (2 : Int)))) = r := hr.out
  by_cases h : n = 1
  · subst h
    obtain rfl : true = r := hr2
    (try clear hr2); clear hr
    go_enter Tryz.func14, Tryz.ntmps14
    go_wp2
    go_ret
    exact ⟨rfl, rfl⟩
  · have b : (n == 1) = false := by simpa using h
    by_cases h2 : n = 2
    · subst h2
      obtain rfl : true = r := hr2
      (try clear hr2); clear hr h
      go_enter Tryz.func14, Tryz.ntmps14
      go_wp2
      go_ret
      exact ⟨rfl, rfl⟩
    · have b2 : (n == 2) = false := by simpa using h2
      obtain rfl : false = r := by rw [← hr2]; simp; omega
      (try clear hr2)
      clear hr h h2
      go_enter Tryz.func14, Tryz.ntmps14
      go_wp2
      go_ret
      exact ⟨rfl, rfl⟩
theorem rhas18_sign (n : Int) (w : World) (r : Bool) (hr : Hid (fitsB 15 n = r)) : Calls Tryz.prog 14 #[.string ⟨#[115, 105, 103, 110]⟩, .int .i64 n] w fun e w' => e = .returned (.bool r) ∧ w = w' := by
  have hr2 : (decide ((1 : Int) ≤ n) && (decide ((1 : Int) < 0) || decide (n ≤ (1 : Int)))) = r := hr.out
  by_cases h : n = 1
  · subst h
    obtain rfl : true = r := hr2
    (try clear hr2); clear hr
    go_enter Tryz.func14, Tryz.ntmps14
    go_wp2
    go_ret
    exact ⟨rfl, rfl⟩
  · have b : (n == 1) = false := by simpa using h
    obtain rfl : false = r := by rw [← hr2]; simp; omega
    (try clear hr2); clear hr h
    go_enter Tryz.func14, Tryz.ntmps14
    go_wp2
    go_ret
    exact ⟨rfl, rfl⟩
theorem rhas18_substr (n : Int) (w : World) (r : Bool) (hr : Hid (fitsB 16 n = r)) : Calls Tryz.prog 14 #[.string ⟨#[115, 117, 98, 115, 116, 114]⟩, .int .i64 n] w fun e w' => e = .returned (.bool r) ∧ w = w' := by
  have hr2 : (decide ((2 : Int) ≤ n) && (decide ((3 : Int) < 0) || decide (n ≤ (3 : Int)))) = r := hr.out
  by_cases h : n = 2
  · subst h
    obtain rfl : true = r := hr2
    (try clear hr2); clear hr
    go_enter Tryz.func14, Tryz.ntmps14
    go_wp2
    go_ret
    exact ⟨rfl, rfl⟩
  · have b : (n == 2) = false := by simpa using h
    by_cases h2 : n = 3
    · subst h2
      obtain rfl : true = r := hr2
      (try clear hr2); clear hr h
      go_enter Tryz.func14, Tryz.ntmps14
      go_wp2
      go_ret
      exact ⟨rfl, rfl⟩
    · have b2 : (n == 3) = false := by simpa using h2
      obtain rfl : false = r := by rw [← hr2]; simp; omega
      (try clear hr2)
      clear hr h h2
      go_enter Tryz.func14, Tryz.ntmps14
      go_wp2
      go_ret
      exact ⟨rfl, rfl⟩
theorem rhas18_trim (n : Int) (w : World) (r : Bool) (hr : Hid (fitsB 17 n = r)) : Calls Tryz.prog 14 #[.string ⟨#[116, 114, 105, 109]⟩, .int .i64 n] w fun e w' => e = .returned (.bool r) ∧ w = w' := by
  have hr2 : (decide ((1 : Int) ≤ n) && (decide ((2 : Int) < 0) || decide (n ≤ (2 : Int)))) = r := hr.out
  by_cases h : n = 1
  · subst h
    obtain rfl : true = r := hr2
    (try clear hr2); clear hr
    go_enter Tryz.func14, Tryz.ntmps14
    go_wp2
    go_ret
    exact ⟨rfl, rfl⟩
  · have b : (n == 1) = false := by simpa using h
    by_cases h2 : n = 2
    · subst h2
      obtain rfl : true = r := hr2
      (try clear hr2); clear hr h
      go_enter Tryz.func14, Tryz.ntmps14
      go_wp2
      go_ret
      exact ⟨rfl, rfl⟩
    · have b2 : (n == 2) = false := by simpa using h2
      obtain rfl : false = r := by rw [← hr2]; simp; omega
      (try clear hr2)
      clear hr h h2
      go_enter Tryz.func14, Tryz.ntmps14
      go_wp2
      go_ret
      exact ⟨rfl, rfl⟩
theorem rhas18_typeof (n : Int) (w : World) (r : Bool) (hr : Hid (fitsB 18 n = r)) : Calls Tryz.prog 14 #[.string ⟨#[116, 121, 112, 101, 111, 102]⟩, .int .i64 n] w fun e w' => e = .returned (.bool r) ∧ w = w' := by
  have hr2 : (decide ((1 : Int) ≤ n) && (decide ((1 : Int) < 0) || decide (n ≤ (1 : Int)))) = r := hr.out
  by_cases h : n = 1
  · subst h
    obtain rfl : true = r := hr2
    (try clear hr2); clear hr
    go_enter Tryz.func14, Tryz.ntmps14
    go_wp2
    go_ret
    exact ⟨rfl, rfl⟩
  · have b : (n == 1) = false := by simpa using h
    obtain rfl : false = r := by rw [← hr2]; simp; omega
    (try clear hr2); clear hr h
    go_enter Tryz.func14, Tryz.ntmps14
    go_wp2
    go_ret
    exact ⟨rfl, rfl⟩
theorem rhas18_upper (n : Int) (w : World) (r : Bool) (hr : Hid (fitsB 19 n = r)) : Calls Tryz.prog 14 #[.string ⟨#[117, 112, 112, 101, 114]⟩, .int .i64 n] w fun e w' => e = .returned (.bool r) ∧ w = w' := by
  have hr2 : (decide ((1 : Int) ≤ n) && (decide ((1 : Int) < 0) || decide (n ≤ (1 : Int)))) = r := hr.out
  by_cases h : n = 1
  · subst h
    obtain rfl : true = r := hr2
    (try clear hr2); clear hr
    go_enter Tryz.func14, Tryz.ntmps14
    go_wp2
    go_ret
    exact ⟨rfl, rfl⟩
  · have b : (n == 1) = false := by simpa using h
    obtain rfl : false = r := by rw [← hr2]; simp; omega
    (try clear hr2); clear hr h
    go_enter Tryz.func14, Tryz.ntmps14
    go_wp2
    go_ret
    exact ⟨rfl, rfl⟩
theorem rhas18_none (f : ByteArray) (n : Int) (w : World) (x0 : f.data.toList ≠ [97, 98, 115]) (x1 : f.data.toList ≠ [99, 111, 97, 108, 101, 115, 99, 101]) (x2 : f.data.toList ≠ [104, 101, 120]) (x3 : f.data.toList ≠ [105, 102, 110, 117, 108, 108]) (x4 : f.data.toList ≠ [105, 105, 102]) (x5 : f.data.toList ≠ [105, 110, 115, 116, 114]) (x6 : f.data.toList ≠ [108, 101, 110, 103, 116, 104]) (x7 : f.data.toList ≠ [108, 111, 119, 101, 114]) (x8 : f.data.toList ≠ [108, 116, 114, 105, 109]) (x9 : f.data.toList ≠ [109, 97, 120]) (x10 : f.data.toList ≠ [109, 105, 110]) (x11 : f.data.toList ≠ [110, 117, 108, 108, 105, 102]) (x12 : f.data.toList ≠ [113, 117, 111, 116, 101]) (x13 : f.data.toList ≠ [114, 101, 112, 108, 97, 99, 101]) (x14 : f.data.toList ≠ [114, 116, 114, 105, 109]) (x15 : f.data.toList ≠ [115, 105, 103, 110]) (x16 : f.data.toList ≠ [115, 117, 98, 115, 116, 114]) (x17 : f.data.toList ≠ [116, 114, 105, 109]) (x18 : f.data.toList ≠ [116, 121, 112, 101, 111, 102]) (x19 : f.data.toList ≠ [117, 112, 112, 101, 114]) : Calls Tryz.prog 14 #[.string f, .int .i64 n] w fun e w' => e = .returned (.bool false) ∧ w = w' := by
  have y0 : (f.toList == (⟨#[97, 98, 115]⟩ : ByteArray).toList) = false := by rw [beq_lists, beq_eq_false_iff_ne]; exact x0
  have z0 : (f.toList == [97, 98, 115]) = false := by rw [Lib.toList_data, beq_eq_false_iff_ne]; exact x0
  replace x0 := Lib.hid x0
  have y1 : (f.toList == (⟨#[99, 111, 97, 108, 101, 115, 99, 101]⟩ : ByteArray).toList) = false := by rw [beq_lists, beq_eq_false_iff_ne]; exact x1
  have z1 : (f.toList == [99, 111, 97, 108, 101, 115, 99, 101]) = false := by rw [Lib.toList_data, beq_eq_false_iff_ne]; exact x1
  replace x1 := Lib.hid x1
  have y2 : (f.toList == (⟨#[104, 101, 120]⟩ : ByteArray).toList) = false := by rw [beq_lists, beq_eq_false_iff_ne]; exact x2
  have z2 : (f.toList == [104, 101, 120]) = false := by rw [Lib.toList_data, beq_eq_false_iff_ne]; exact x2
  replace x2 := Lib.hid x2
  have y3 : (f.toList == (⟨#[105, 102, 110, 117, 108, 108]⟩ : ByteArray).toList) = false := by rw [beq_lists, beq_eq_false_iff_ne]; exact x3
  have z3 : (f.toList == [105, 102, 110, 117, 108, 108]) = false := by rw [Lib.toList_data, beq_eq_false_iff_ne]; exact x3
  replace x3 := Lib.hid x3
  have y4 : (f.toList == (⟨#[105, 105, 102]⟩ : ByteArray).toList) = false := by rw [beq_lists, beq_eq_false_iff_ne]; exact x4
  have z4 : (f.toList == [105, 105, 102]) = false := by rw [Lib.toList_data, beq_eq_false_iff_ne]; exact x4
  replace x4 := Lib.hid x4
  have y5 : (f.toList == (⟨#[105, 110, 115, 116, 114]⟩ : ByteArray).toList) = false := by rw [beq_lists, beq_eq_false_iff_ne]; exact x5
  have z5 : (f.toList == [105, 110, 115, 116, 114]) = false := by rw [Lib.toList_data, beq_eq_false_iff_ne]; exact x5
  replace x5 := Lib.hid x5
  have y6 : (f.toList == (⟨#[108, 101, 110, 103, 116, 104]⟩ : ByteArray).toList) = false := by rw [beq_lists, beq_eq_false_iff_ne]; exact x6
  have z6 : (f.toList == [108, 101, 110, 103, 116, 104]) = false := by rw [Lib.toList_data, beq_eq_false_iff_ne]; exact x6
  replace x6 := Lib.hid x6
  have y7 : (f.toList == (⟨#[108, 111, 119, 101, 114]⟩ : ByteArray).toList) = false := by rw [beq_lists, beq_eq_false_iff_ne]; exact x7
  have z7 : (f.toList == [108, 111, 119, 101, 114]) = false := by rw [Lib.toList_data, beq_eq_false_iff_ne]; exact x7
  replace x7 := Lib.hid x7
  have y8 : (f.toList == (⟨#[108, 116, 114, 105, 109]⟩ : ByteArray).toList) = false := by rw [beq_lists, beq_eq_false_iff_ne]; exact x8
  have z8 : (f.toList == [108, 116, 114, 105, 109]) = false := by rw [Lib.toList_data, beq_eq_false_iff_ne]; exact x8
  replace x8 := Lib.hid x8
  have y9 : (f.toList == (⟨#[109, 97, 120]⟩ : ByteArray).toList) = false := by rw [beq_lists, beq_eq_false_iff_ne]; exact x9
  have z9 : (f.toList == [109, 97, 120]) = false := by rw [Lib.toList_data, beq_eq_false_iff_ne]; exact x9
  replace x9 := Lib.hid x9
  have y10 : (f.toList == (⟨#[109, 105, 110]⟩ : ByteArray).toList) = false := by rw [beq_lists, beq_eq_false_iff_ne]; exact x10
  have z10 : (f.toList == [109, 105, 110]) = false := by rw [Lib.toList_data, beq_eq_false_iff_ne]; exact x10
  replace x10 := Lib.hid x10
  have y11 : (f.toList == (⟨#[110, 117, 108, 108, 105, 102]⟩ : ByteArray).toList) = false := by rw [beq_lists, beq_eq_false_iff_ne]; exact x11
  have z11 : (f.toList == [110, 117, 108, 108, 105, 102]) = false := by rw [Lib.toList_data, beq_eq_false_iff_ne]; exact x11
  replace x11 := Lib.hid x11
  have y12 : (f.toList == (⟨#[113, 117, 111, 116, 101]⟩ : ByteArray).toList) = false := by rw [beq_lists, beq_eq_false_iff_ne]; exact x12
  have z12 : (f.toList == [113, 117, 111, 116, 101]) = false := by rw [Lib.toList_data, beq_eq_false_iff_ne]; exact x12
  replace x12 := Lib.hid x12
  have y13 : (f.toList == (⟨#[114, 101, 112, 108, 97, 99, 101]⟩ : ByteArray).toList) = false := by rw [beq_lists, beq_eq_false_iff_ne]; exact x13
  have z13 : (f.toList == [114, 101, 112, 108, 97, 99, 101]) = false := by rw [Lib.toList_data, beq_eq_false_iff_ne]; exact x13
  replace x13 := Lib.hid x13
  have y14 : (f.toList == (⟨#[114, 116, 114, 105, 109]⟩ : ByteArray).toList) = false := by rw [beq_lists, beq_eq_false_iff_ne]; exact x14
  have z14 : (f.toList == [114, 116, 114, 105, 109]) = false := by rw [Lib.toList_data, beq_eq_false_iff_ne]; exact x14
  replace x14 := Lib.hid x14
  have y15 : (f.toList == (⟨#[115, 105, 103, 110]⟩ : ByteArray).toList) = false := by rw [beq_lists, beq_eq_false_iff_ne]; exact x15
  have z15 : (f.toList == [115, 105, 103, 110]) = false := by rw [Lib.toList_data, beq_eq_false_iff_ne]; exact x15
  replace x15 := Lib.hid x15
  have y16 : (f.toList == (⟨#[115, 117, 98, 115, 116, 114]⟩ : ByteArray).toList) = false := by rw [beq_lists, beq_eq_false_iff_ne]; exact x16
  have z16 : (f.toList == [115, 117, 98, 115, 116, 114]) = false := by rw [Lib.toList_data, beq_eq_false_iff_ne]; exact x16
  replace x16 := Lib.hid x16
  have y17 : (f.toList == (⟨#[116, 114, 105, 109]⟩ : ByteArray).toList) = false := by rw [beq_lists, beq_eq_false_iff_ne]; exact x17
  have z17 : (f.toList == [116, 114, 105, 109]) = false := by rw [Lib.toList_data, beq_eq_false_iff_ne]; exact x17
  replace x17 := Lib.hid x17
  have y18 : (f.toList == (⟨#[116, 121, 112, 101, 111, 102]⟩ : ByteArray).toList) = false := by rw [beq_lists, beq_eq_false_iff_ne]; exact x18
  have z18 : (f.toList == [116, 121, 112, 101, 111, 102]) = false := by rw [Lib.toList_data, beq_eq_false_iff_ne]; exact x18
  replace x18 := Lib.hid x18
  have y19 : (f.toList == (⟨#[117, 112, 112, 101, 114]⟩ : ByteArray).toList) = false := by rw [beq_lists, beq_eq_false_iff_ne]; exact x19
  have z19 : (f.toList == [117, 112, 112, 101, 114]) = false := by rw [Lib.toList_data, beq_eq_false_iff_ne]; exact x19
  replace x19 := Lib.hid x19
  go_enter Tryz.func14, Tryz.ntmps14
  go_wp2
  go_ret
  exact ⟨rfl, rfl⟩
theorem rnulls18_abs (w : World) : Calls Tryz.prog 32 #[.string ⟨#[97, 98, 115]⟩] w fun e w' => e = .returned (.bool false) ∧ w = w' := by
  go_enter Tryz.func32, Tryz.ntmps32
  go_wp2
  go_ret
  exact ⟨rfl, rfl⟩
theorem rnulls18_coalesce (w : World) : Calls Tryz.prog 32 #[.string ⟨#[99, 111, 97, 108, 101, 115, 99, 101]⟩] w fun e w' => e = .returned (.bool true) ∧ w = w' := by
  go_enter Tryz.func32, Tryz.ntmps32
  go_wp2
  go_ret
  exact ⟨rfl, rfl⟩
theorem rnulls18_hex (w : World) : Calls Tryz.prog 32 #[.string ⟨#[104, 101, 120]⟩] w fun e w' => e = .returned (.bool false) ∧ w = w' := by
  go_enter Tryz.func32, Tryz.ntmps32
  go_wp2
  go_ret
  exact ⟨rfl, rfl⟩
theorem rnulls18_ifnull (w : World) : Calls Tryz.prog 32 #[.string ⟨#[105, 102, 110, 117, 108, 108]⟩] w fun e w' => e = .returned (.bool true) ∧ w = w' := by
  go_enter Tryz.func32, Tryz.ntmps32
  go_wp2
  go_ret
  exact ⟨rfl, rfl⟩
theorem rnulls18_iif (w : World) : Calls Tryz.prog 32 #[.string ⟨#[105, 105, 102]⟩] w fun e w' => e = .returned (.bool true) ∧ w = w' := by
  go_enter Tryz.func32, Tryz.ntmps32
  go_wp2
  go_ret
  exact ⟨rfl, rfl⟩
theorem rnulls18_instr (w : World) : Calls Tryz.prog 32 #[.string ⟨#[105, 110, 115, 116, 114]⟩] w fun e w' => e = .returned (.bool false) ∧ w = w' := by
  go_enter Tryz.func32, Tryz.ntmps32
  go_wp2
  go_ret
  exact ⟨rfl, rfl⟩
theorem rnulls18_length (w : World) : Calls Tryz.prog 32 #[.string ⟨#[108, 101, 110, 103, 116, 104]⟩] w fun e w' => e = .returned (.bool false) ∧ w = w' := by
  go_enter Tryz.func32, Tryz.ntmps32
  go_wp2
  go_ret
  exact ⟨rfl, rfl⟩
theorem rnulls18_lower (w : World) : Calls Tryz.prog 32 #[.string ⟨#[108, 111, 119, 101, 114]⟩] w fun e w' => e = .returned (.bool false) ∧ w = w' := by
  go_enter Tryz.func32, Tryz.ntmps32
  go_wp2
  go_ret
  exact ⟨rfl, rfl⟩
theorem rnulls18_ltrim (w : World) : Calls Tryz.prog 32 #[.string ⟨#[108, 116, 114, 105, 109]⟩] w fun e w' => e = .returned (.bool false) ∧ w = w' := by
  go_enter Tryz.func32, Tryz.ntmps32
  go_wp2
  go_ret
  exact ⟨rfl, rfl⟩
theorem rnulls18_max (w : World) : Calls Tryz.prog 32 #[.string ⟨#[109, 97, 120]⟩] w fun e w' => e = .returned (.bool false) ∧ w = w' := by
  go_enter Tryz.func32, Tryz.ntmps32
  go_wp2
  go_ret
  exact ⟨rfl, rfl⟩
theorem rnulls18_min (w : World) : Calls Tryz.prog 32 #[.string ⟨#[109, 105, 110]⟩] w fun e w' => e = .returned (.bool false) ∧ w = w' := by
  go_enter Tryz.func32, Tryz.ntmps32
  go_wp2
  go_ret
  exact ⟨rfl, rfl⟩
theorem rnulls18_nullif (w : World) : Calls Tryz.prog 32 #[.string ⟨#[110, 117, 108, 108, 105, 102]⟩] w fun e w' => e = .returned (.bool true) ∧ w = w' := by
  go_enter Tryz.func32, Tryz.ntmps32
  go_wp2
  go_ret
  exact ⟨rfl, rfl⟩
theorem rnulls18_quote (w : World) : Calls Tryz.prog 32 #[.string ⟨#[113, 117, 111, 116, 101]⟩] w fun e w' => e = .returned (.bool true) ∧ w = w' := by
  go_enter Tryz.func32, Tryz.ntmps32
  go_wp2
  go_ret
  exact ⟨rfl, rfl⟩
theorem rnulls18_replace (w : World) : Calls Tryz.prog 32 #[.string ⟨#[114, 101, 112, 108, 97, 99, 101]⟩] w fun e w' => e = .returned (.bool false) ∧ w = w' := by
  go_enter Tryz.func32, Tryz.ntmps32
  go_wp2
  go_ret
  exact ⟨rfl, rfl⟩
theorem rnulls18_rtrim (w : World) : Calls Tryz.prog 32 #[.string ⟨#[114, 116, 114, 105, 109]⟩] w fun e w' => e = .returned (.bool false) ∧ w = w' := by
  go_enter Tryz.func32, Tryz.ntmps32
  go_wp2
  go_ret
  exact ⟨rfl, rfl⟩
theorem rnulls18_sign (w : World) : Calls Tryz.prog 32 #[.string ⟨#[115, 105, 103, 110]⟩] w fun e w' => e = .returned (.bool false) ∧ w = w' := by
  go_enter Tryz.func32, Tryz.ntmps32
  go_wp2
  go_ret
  exact ⟨rfl, rfl⟩
theorem rnulls18_substr (w : World) : Calls Tryz.prog 32 #[.string ⟨#[115, 117, 98, 115, 116, 114]⟩] w fun e w' => e = .returned (.bool false) ∧ w = w' := by
  go_enter Tryz.func32, Tryz.ntmps32
  go_wp2
  go_ret
  exact ⟨rfl, rfl⟩
theorem rnulls18_trim (w : World) : Calls Tryz.prog 32 #[.string ⟨#[116, 114, 105, 109]⟩] w fun e w' => e = .returned (.bool false) ∧ w = w' := by
  go_enter Tryz.func32, Tryz.ntmps32
  go_wp2
  go_ret
  exact ⟨rfl, rfl⟩
theorem rnulls18_typeof (w : World) : Calls Tryz.prog 32 #[.string ⟨#[116, 121, 112, 101, 111, 102]⟩] w fun e w' => e = .returned (.bool true) ∧ w = w' := by
  go_enter Tryz.func32, Tryz.ntmps32
  go_wp2
  go_ret
  exact ⟨rfl, rfl⟩
theorem rnulls18_upper (w : World) : Calls Tryz.prog 32 #[.string ⟨#[117, 112, 112, 101, 114]⟩] w fun e w' => e = .returned (.bool false) ∧ w = w' := by
  go_enter Tryz.func32, Tryz.ntmps32
  go_wp2
  go_ret
  exact ⟨rfl, rfl⟩

end Go.Proofs.YtmkgalcojoeniaaGreatDoor

namespace Go.Proofs.YtmkgalcojoeniaaGreatDoor
open Go.RowKit
attribute [local go_sem] run_store_fn run_store_nofn

def HasP (f : ByteArray) (N : Nat) (b : Bool) : Prop := ∀ W : World, Calls Tryz.prog 14 #[.string f, .int .i64 (N : Int)] W fun e w' => e = .returned (.bool b) ∧ W = w'
def NullsP (f : ByteArray) (b : Bool) : Prop := ∀ W : World, Calls Tryz.prog 32 #[.string f] W fun e w' => e = .returned (.bool b) ∧ W = w'
set_option maxHeartbeats 2000000 in
theorem rcall18_none (x f : ByteArray) (hx : x.size ≤ 1048576) (hf : Hid (bs (x.data.toList.map Txt.lower) = f)) (c : Int) (p : Option Addr) (N cap : Nat) (vs : List Val.V) (w : World) (hA : ValsAt w p N vs) (hN : N ≤ 1048576) (hHas : HasP f N false) :
    Calls Tryz.prog 11 #[.string x, .int .i64 c, .slice p N cap] w (VRet2 0 0 ⟨#[]⟩ 4 w) := by
  obtain ⟨g0, hg0⟩ : ∃ g, w.heap.size = g := ⟨_, rfl⟩
  have hA0 := AgS.one w 0 0 ⟨#[]⟩
  rw [hg0] at hA0
  have hw0 : w.heap.size ≤ g0 := Nat.le_of_eq hg0
  replace hw0 := Lib.hid hw0
  replace hg0 := Lib.hid hg0
  go_enter Tryz.func11, Tryz.ntmps11
  go_upto_region 1 with fail
  rw [hg0.out]
  go_wp2_with fail
  refine (rlower_any _ _ hx _ hf).mono ?_
  rintro e w1 ⟨rfl, hb1⟩
  have hA1 := hA0.on hb1
  go_wp2_with fail
  refine (hHas _).mono ?_
  rintro e w2 ⟨rfl, rfl⟩
  obtain ⟨y0, y1, y2, y3, y4, y5⟩ := (AgS.get hA1 (g := g0) (k := 0) (n := 0) (t := ⟨#[]⟩) List.mem_cons_self).cells
  go_wp2
  exact bodyPost_ret (v := .tuple #[.agg #[.int .i64 0, .int .i64 0, .string ⟨#[]⟩], .int .i64 4]) (by simp only [results, Tryz.results11]; go_simp) rfl ⟨rfl, below_put hA1.2 hw0.out⟩

set_option maxHeartbeats 2000000 in
theorem rcall18_bad (x f : ByteArray) (hx : x.size ≤ 1048576) (hf : Hid (bs (x.data.toList.map Txt.lower) = f)) (c : Int) (p : Option Addr) (N cap : Nat) (vs : List Val.V) (w : World) (hA : ValsAt w p N vs) (hN : N ≤ 1048576) (hHas : HasP f N true) (hc : vs.all Val.may = false) :
    Calls Tryz.prog 11 #[.string x, .int .i64 c, .slice p N cap] w (VRet2 0 0 ⟨#[]⟩ 2 w) := by
  obtain ⟨g0, hg0⟩ : ∃ g, w.heap.size = g := ⟨_, rfl⟩
  have hA0 := AgS.one w 0 0 ⟨#[]⟩
  rw [hg0] at hA0
  have hw0 : w.heap.size ≤ g0 := Nat.le_of_eq hg0
  replace hw0 := Lib.hid hw0
  replace hg0 := Lib.hid hg0
  have hcv : (vcheck vs : Int) = 2 := by unfold vcheck; rw [if_neg (by rw [hc]; simp)]; rfl
  replace hcv := Lib.hid hcv
  clear hc
  go_enter Tryz.func11, Tryz.ntmps11
  go_upto_region 1 with fail
  rw [hg0.out]
  go_wp2_with fail
  refine (rlower_any _ _ hx _ hf).mono ?_
  rintro e w1 ⟨rfl, hb1⟩
  have hA1 := hA0.on hb1
  go_wp2_with fail
  refine (hHas _).mono ?_
  rintro e w2 ⟨rfl, rfl⟩
  go_wp2_with fail
  refine (rcheck_any _ _ _ vs _ (hA.below hA1.2) hN).mono ?_
  rintro e w3 ⟨rfl, hb3⟩
  have hA3 := hA1.on hb3
  rw [hcv.out]
  obtain ⟨y0, y1, y2, y3, y4, y5⟩ := (AgS.get hA3 (g := g0) (k := 0) (n := 0) (t := ⟨#[]⟩) List.mem_cons_self).cells
  go_wp2
  exact bodyPost_ret (v := .tuple #[.agg #[.int .i64 0, .int .i64 0, .string ⟨#[]⟩], .int .i64 2]) (by simp only [results, Tryz.results11]; go_simp) rfl ⟨rfl, below_put hA3.2 hw0.out⟩

set_option maxHeartbeats 2000000 in
theorem rcall18_choose (x f : ByteArray) (hx : x.size ≤ 1048576) (hf : Hid (bs (x.data.toList.map Txt.lower) = f)) (c : Int) (p : Option Addr) (N cap : Nat) (vs : List Val.V) (w : World) (hA : ValsAt w p N vs) (hN : N ≤ 1048576) (hHas : HasP f N true) (hc : vs.all Val.may = true) (hnl : NullsP f true) (k' n' : Int) (t' : ByteArray) (hdo : ∀ W : World, Below w.heap.size w W → Calls Tryz.prog 33 #[.string f, .int .i64 c, .slice p N cap] W (VRet k' n' t' W)) :
    Calls Tryz.prog 11 #[.string x, .int .i64 c, .slice p N cap] w (VRet2 k' n' t' 0 w) := by
  obtain ⟨g0, hg0⟩ : ∃ g, w.heap.size = g := ⟨_, rfl⟩
  have hA0 := AgS.one w 0 0 ⟨#[]⟩
  rw [hg0] at hA0
  have hw0 : w.heap.size ≤ g0 := Nat.le_of_eq hg0
  replace hw0 := Lib.hid hw0
  replace hg0 := Lib.hid hg0
  have hcv : ((vcheck vs : Int) == 2) = false := by
    unfold vcheck
    rw [if_pos hc]
    split <;> rfl
  clear hc
  go_enter Tryz.func11, Tryz.ntmps11
  go_upto_region 1 with fail
  rw [hg0.out]
  go_wp2_with fail
  refine (rlower_any _ _ hx _ hf).mono ?_
  rintro e w1 ⟨rfl, hb1⟩
  have hA1 := hA0.on hb1
  go_wp2_with fail
  refine (hHas _).mono ?_
  rintro e w2 ⟨rfl, rfl⟩
  go_wp2_with fail
  refine (rcheck_any _ _ _ vs _ (hA.below hA1.2) hN).mono ?_
  rintro e w3 ⟨rfl, hb3⟩
  have hA3 := hA1.on hb3
  go_wp2_with fail
  refine (hnl _).mono ?_
  rintro e w4 ⟨rfl, rfl⟩
  go_wp2_with fail
  refine (hdo _ hA3.2).mono ?_
  rintro e w5 ⟨rfl, hb5⟩
  have hA5 := hA3.on hb5
  obtain ⟨y0, y1, y2, y3, y4, y5⟩ := (AgS.get hA5 (g := g0) (k := 0) (n := 0) (t := ⟨#[]⟩) List.mem_cons_self).cells
  go_wp2
  exact bodyPost_ret (v := .tuple #[.agg #[.int .i64 k', .int .i64 n', .string t'], .int .i64 0]) (by simp only [results, Tryz.results11]; go_simp) rfl ⟨rfl, below_put hA5.2 hw0.out⟩

set_option maxHeartbeats 2000000 in
theorem rcall18_null (x f : ByteArray) (hx : x.size ≤ 1048576) (hf : Hid (bs (x.data.toList.map Txt.lower) = f)) (c : Int) (p : Option Addr) (N cap : Nat) (vs : List Val.V) (w : World) (hA : ValsAt w p N vs) (hN : N ≤ 1048576) (hHas : HasP f N true) (hc : vs.all Val.may = true) (hnl : NullsP f false) (hz : vs.any (fun v => v.kind == 0) = true) :
    Calls Tryz.prog 11 #[.string x, .int .i64 c, .slice p N cap] w (VRet2 0 0 ⟨#[]⟩ 0 w) := by
  obtain ⟨g0, hg0⟩ : ∃ g, w.heap.size = g := ⟨_, rfl⟩
  have hA0 := AgS.one w 0 0 ⟨#[]⟩
  rw [hg0] at hA0
  have hw0 : w.heap.size ≤ g0 := Nat.le_of_eq hg0
  replace hw0 := Lib.hid hw0
  replace hg0 := Lib.hid hg0
  have hcv : ((vcheck vs : Int) == 2) = false := by
    unfold vcheck
    rw [if_pos hc]
    split <;> rfl
  clear hc
  have hlen := hA.1
  replace hlen := Lib.hid hlen
  replace hz := Lib.hid hz
  go_enter Tryz.func11, Tryz.ntmps11
  go_upto_region 1 with fail
  rw [hg0.out]
  go_wp2_with fail
  refine (rlower_any _ _ hx _ hf).mono ?_
  rintro e w1 ⟨rfl, hb1⟩
  have hA1 := hA0.on hb1
  go_wp2_with fail
  refine (hHas _).mono ?_
  rintro e w2 ⟨rfl, rfl⟩
  go_wp2_with fail
  refine (rcheck_any _ _ _ vs _ (hA.below hA1.2) hN).mono ?_
  rintro e w3 ⟨rfl, hb3⟩
  have hA3 := hA1.on hb3
  go_wp2_with fail
  refine (hnl _).mono ?_
  rintro e w4 ⟨rfl, rfl⟩
  go_upto_block 0 with fail
  obtain ⟨y0, y1, y2, y3, y4, y5⟩ := (AgS.get hA3 (g := g0) (k := 0) (n := 0) (t := ⟨#[]⟩) List.mem_cons_self).cells
  go_wp2_with fail
  go_loop [9] (fun iv => ∃ k : Nat, iv = .int .i64 (k : Int) ∧ k ≤ N ∧ Hid ((vs.drop k).any (fun v => v.kind == 0) = true)) (fun iv => N - (intOf iv).toNat)
  case atStart => exact ⟨0, by go_num, by omega, hz⟩
  case round =>
    obtain ⟨k, rfl, hk, hH⟩ := hrel
    clear hz
    by_cases hlt : k < N
    · have hlk : k < vs.length := by rw [hlen.out]; exact hlt
      have hH := hH.out
      rw [List.drop_eq_getElem_cons hlk, List.any_cons] at hH
      obtain ⟨v, hvk⟩ : ∃ v, vs[k] = v := ⟨_, rfl⟩
      have hgk : vs[k]? = some v := by rw [List.getElem?_eq_getElem hlk, hvk]
      rw [hvk] at hH
      obtain ⟨b, off, rfl, hat⟩ := (hA.below hA3.2).get hgk
      obtain ⟨c0, c1, c2, _⟩ := hat
      have lB : decide ((k : Int) < (N : Int)) = true := by simp; omega
      have i0 : (0 : Int) ≤ (k : Int) := by omega
      have i1 : (k : Int) < (N : Int) := by omega
      obtain ⟨q, hq⟩ : ∃ q, (v.kind == 0) = q := ⟨_, rfl⟩
      rw [hq] at hH
      clear hvk hgk hlk
      cases q with
      | true =>
        clear hH
        go_wp2
        exact bodyPost_ret (v := .tuple #[.agg #[.int .i64 0, .int .i64 0, .string ⟨#[]⟩], .int .i64 0]) (by simp only [results, Tryz.results11]; go_simp) rfl ⟨rfl, below_put hA3.2 hw0.out⟩
      | false =>
        rw [Bool.false_or] at hH
        replace hH := Lib.hid hH
        go_wp2
        go_round
        case rel => exact ⟨k + 1, by go_num, by omega, hH⟩
        case measure => simp [intOf]; omega
    · have hH := hH.out
      rw [List.drop_eq_nil_of_le (by rw [hlen.out]; omega)] at hH
      cases hH

set_option maxHeartbeats 2000000 in
theorem rcall18_abs (x : ByteArray) (hx : x.size ≤ 1048576) (hf : Hid (bs (x.data.toList.map Txt.lower) = ⟨#[97, 98, 115]⟩)) (c : Int) (b off : Nat) (N cap : Nat) (vs : List Val.V) (w : World) (hA : ValsAt w (some ⟨b, off, none⟩) N vs) (hN : N ≤ 1048576) (hHas : HasP ⟨#[97, 98, 115]⟩ N true) (hc : vs.all Val.may = true) (hz : ∀ v ∈ vs, v.kind ≠ 0) (k0 n0 : Int) (t0 : ByteArray) (hv0 : VAt w b off k0 n0 t0) (hN1 : 0 < N) (k' n' : Int) (t' : ByteArray) (hdo : ∀ W : World, Below w.heap.size w W → Calls Tryz.prog 34 #[.string ⟨#[97, 98, 115]⟩, .agg #[.int .i64 k0, .int .i64 n0, .string t0]] W (VRet k' n' t' W)) :
    Calls Tryz.prog 11 #[.string x, .int .i64 c, .slice (some ⟨b, off, none⟩) N cap] w (VRet2 k' n' t' 0 w) := by
  obtain ⟨g0, hg0⟩ : ∃ g, w.heap.size = g := ⟨_, rfl⟩
  have hA0 := AgS.one w 0 0 ⟨#[]⟩
  rw [hg0] at hA0
  have hw0 : w.heap.size ≤ g0 := Nat.le_of_eq hg0
  replace hw0 := Lib.hid hw0
  replace hg0 := Lib.hid hg0
  have hcv : ((vcheck vs : Int) == 2) = false := by
    unfold vcheck
    rw [if_pos hc]
    split <;> rfl
  clear hc
  have hlen := hA.1
  replace hlen := Lib.hid hlen
  replace hz := Lib.hid hz
  go_enter Tryz.func11, Tryz.ntmps11
  go_upto_region 1 with fail
  rw [hg0.out]
  go_wp2_with fail
  refine (rlower_any _ _ hx _ hf).mono ?_
  rintro e w1 ⟨rfl, hb1⟩
  have hA1 := hA0.on hb1
  go_wp2_with fail
  refine (hHas _).mono ?_
  rintro e w2 ⟨rfl, rfl⟩
  go_wp2_with fail
  refine (rcheck_any _ _ _ vs _ (hA.below hA1.2) hN).mono ?_
  rintro e w3 ⟨rfl, hb3⟩
  have hA3 := hA1.on hb3
  go_wp2_with fail
  refine (rnulls18_abs _).mono ?_
  rintro e w4 ⟨rfl, rfl⟩
  go_upto_block 0 with fail
  obtain ⟨y0, y1, y2, y3, y4, y5⟩ := (AgS.get hA3 (g := g0) (k := 0) (n := 0) (t := ⟨#[]⟩) List.mem_cons_self).cells
  obtain ⟨d0, d1, d2, _⟩ := hv0.on hA3.2
  have j0 : (0 : Int) < (N : Int) := by omega
  go_wp2_with fail
  go_loop [9] (fun iv => ∃ k : Nat, iv = .int .i64 (k : Int) ∧ k ≤ N) (fun iv => N - (intOf iv).toNat)
  case atStart => exact ⟨0, by go_num, by omega⟩
  case round =>
    obtain ⟨k, rfl, hk⟩ := hrel
    by_cases hlt : k < N
    · have hlk : k < vs.length := by rw [hlen.out]; exact hlt
      obtain ⟨v, hvk⟩ : ∃ v, vs[k] = v := ⟨_, rfl⟩
      have hgk : vs[k]? = some v := by rw [List.getElem?_eq_getElem hlk, hvk]
      have hvz : (v.kind == 0) = false := by
        have := hz.out v (by rw [← hvk]; exact List.getElem_mem hlk)
        simpa using this
      obtain ⟨b', off', he, hat⟩ := (hA.below hA3.2).get hgk
      cases he
      obtain ⟨c0, c1, c2, _⟩ := hat
      have lB : decide ((k : Int) < (N : Int)) = true := by simp; omega
      have i0 : (0 : Int) ≤ (k : Int) := by omega
      have i1 : (k : Int) < (N : Int) := by omega
      clear hvk hgk hlk
      go_wp2
      go_round
      case rel => exact ⟨k + 1, by go_num, by omega⟩
      case measure => simp [intOf]; omega
    · have lB : decide ((k : Int) < (N : Int)) = false := by simp; omega
      go_wp2_with fail
      refine (hdo _ hA3.2).mono ?_
      rintro e w5 ⟨rfl, hb5⟩
      have hA5 := hA3.on hb5
      clear y0 y1 y2 y3 y4 y5
      obtain ⟨y0, y1, y2, y3, y4, y5⟩ := (AgS.get hA5 (g := g0) (k := 0) (n := 0) (t := ⟨#[]⟩) List.mem_cons_self).cells
      go_wp2
      exact bodyPost_ret (v := .tuple #[.agg #[.int .i64 k', .int .i64 n', .string t'], .int .i64 0]) (by simp only [results, Tryz.results11]; go_simp) rfl ⟨rfl, below_put hA5.2 hw0.out⟩

set_option maxHeartbeats 2000000 in
theorem rcall18_hex (x : ByteArray) (hx : x.size ≤ 1048576) (hf : Hid (bs (x.data.toList.map Txt.lower) = ⟨#[104, 101, 120]⟩)) (c : Int) (b off : Nat) (N cap : Nat) (vs : List Val.V) (w : World) (hA : ValsAt w (some ⟨b, off, none⟩) N vs) (hN : N ≤ 1048576) (hHas : HasP ⟨#[104, 101, 120]⟩ N true) (hc : vs.all Val.may = true) (hz : ∀ v ∈ vs, v.kind ≠ 0) (k' n' : Int) (t' : ByteArray) (hdo : ∀ W : World, Below w.heap.size w W → Calls Tryz.prog 37 #[.string ⟨#[104, 101, 120]⟩, .slice (some ⟨b, off, none⟩) N cap] W (VRet k' n' t' W)) :
    Calls Tryz.prog 11 #[.string x, .int .i64 c, .slice (some ⟨b, off, none⟩) N cap] w (VRet2 k' n' t' 0 w) := by
  obtain ⟨g0, hg0⟩ : ∃ g, w.heap.size = g := ⟨_, rfl⟩
  have hA0 := AgS.one w 0 0 ⟨#[]⟩
  rw [hg0] at hA0
  have hw0 : w.heap.size ≤ g0 := Nat.le_of_eq hg0
  replace hw0 := Lib.hid hw0
  replace hg0 := Lib.hid hg0
  have hcv : ((vcheck vs : Int) == 2) = false := by
    unfold vcheck
    rw [if_pos hc]
    split <;> rfl
  clear hc
  have hlen := hA.1
  replace hlen := Lib.hid hlen
  replace hz := Lib.hid hz
  go_enter Tryz.func11, Tryz.ntmps11
  go_upto_region 1 with fail
  rw [hg0.out]
  go_wp2_with fail
  refine (rlower_any _ _ hx _ hf).mono ?_
  rintro e w1 ⟨rfl, hb1⟩
  have hA1 := hA0.on hb1
  go_wp2_with fail
  refine (hHas _).mono ?_
  rintro e w2 ⟨rfl, rfl⟩
  go_wp2_with fail
  refine (rcheck_any _ _ _ vs _ (hA.below hA1.2) hN).mono ?_
  rintro e w3 ⟨rfl, hb3⟩
  have hA3 := hA1.on hb3
  go_wp2_with fail
  refine (rnulls18_hex _).mono ?_
  rintro e w4 ⟨rfl, rfl⟩
  go_upto_block 0 with fail
  obtain ⟨y0, y1, y2, y3, y4, y5⟩ := (AgS.get hA3 (g := g0) (k := 0) (n := 0) (t := ⟨#[]⟩) List.mem_cons_self).cells
  go_wp2_with fail
  go_loop [9] (fun iv => ∃ k : Nat, iv = .int .i64 (k : Int) ∧ k ≤ N) (fun iv => N - (intOf iv).toNat)
  case atStart => exact ⟨0, by go_num, by omega⟩
  case round =>
    obtain ⟨k, rfl, hk⟩ := hrel
    by_cases hlt : k < N
    · have hlk : k < vs.length := by rw [hlen.out]; exact hlt
      obtain ⟨v, hvk⟩ : ∃ v, vs[k] = v := ⟨_, rfl⟩
      have hgk : vs[k]? = some v := by rw [List.getElem?_eq_getElem hlk, hvk]
      have hvz : (v.kind == 0) = false := by
        have := hz.out v (by rw [← hvk]; exact List.getElem_mem hlk)
        simpa using this
      obtain ⟨b', off', he, hat⟩ := (hA.below hA3.2).get hgk
      cases he
      obtain ⟨c0, c1, c2, _⟩ := hat
      have lB : decide ((k : Int) < (N : Int)) = true := by simp; omega
      have i0 : (0 : Int) ≤ (k : Int) := by omega
      have i1 : (k : Int) < (N : Int) := by omega
      clear hvk hgk hlk
      go_wp2
      go_round
      case rel => exact ⟨k + 1, by go_num, by omega⟩
      case measure => simp [intOf]; omega
    · have lB : decide ((k : Int) < (N : Int)) = false := by simp; omega
      go_wp2_with fail
      refine (hdo _ hA3.2).mono ?_
      rintro e w5 ⟨rfl, hb5⟩
      have hA5 := hA3.on hb5
      clear y0 y1 y2 y3 y4 y5
      obtain ⟨y0, y1, y2, y3, y4, y5⟩ := (AgS.get hA5 (g := g0) (k := 0) (n := 0) (t := ⟨#[]⟩) List.mem_cons_self).cells
      go_wp2
      exact bodyPost_ret (v := .tuple #[.agg #[.int .i64 k', .int .i64 n', .string t'], .int .i64 0]) (by simp only [results, Tryz.results11]; go_simp) rfl ⟨rfl, below_put hA5.2 hw0.out⟩

set_option maxHeartbeats 2000000 in
theorem rcall18_instr (x : ByteArray) (hx : x.size ≤ 1048576) (hf : Hid (bs (x.data.toList.map Txt.lower) = ⟨#[105, 110, 115, 116, 114]⟩)) (c : Int) (b off : Nat) (N cap : Nat) (vs : List Val.V) (w : World) (hA : ValsAt w (some ⟨b, off, none⟩) N vs) (hN : N ≤ 1048576) (hHas : HasP ⟨#[105, 110, 115, 116, 114]⟩ N true) (hc : vs.all Val.may = true) (hz : ∀ v ∈ vs, v.kind ≠ 0) (k' n' : Int) (t' : ByteArray) (hdo : ∀ W : World, Below w.heap.size w W → Calls Tryz.prog 37 #[.string ⟨#[105, 110, 115, 116, 114]⟩, .slice (some ⟨b, off, none⟩) N cap] W (VRet k' n' t' W)) :
    Calls Tryz.prog 11 #[.string x, .int .i64 c, .slice (some ⟨b, off, none⟩) N cap] w (VRet2 k' n' t' 0 w) := by
  obtain ⟨g0, hg0⟩ : ∃ g, w.heap.size = g := ⟨_, rfl⟩
  have hA0 := AgS.one w 0 0 ⟨#[]⟩
  rw [hg0] at hA0
  have hw0 : w.heap.size ≤ g0 := Nat.le_of_eq hg0
  replace hw0 := Lib.hid hw0
  replace hg0 := Lib.hid hg0
  have hcv : ((vcheck vs : Int) == 2) = false := by
    unfold vcheck
    rw [if_pos hc]
    split <;> rfl
  clear hc
  have hlen := hA.1
  replace hlen := Lib.hid hlen
  replace hz := Lib.hid hz
  go_enter Tryz.func11, Tryz.ntmps11
  go_upto_region 1 with fail
  rw [hg0.out]
  go_wp2_with fail
  refine (rlower_any _ _ hx _ hf).mono ?_
  rintro e w1 ⟨rfl, hb1⟩
  have hA1 := hA0.on hb1
  go_wp2_with fail
  refine (hHas _).mono ?_
  rintro e w2 ⟨rfl, rfl⟩
  go_wp2_with fail
  refine (rcheck_any _ _ _ vs _ (hA.below hA1.2) hN).mono ?_
  rintro e w3 ⟨rfl, hb3⟩
  have hA3 := hA1.on hb3
  go_wp2_with fail
  refine (rnulls18_instr _).mono ?_
  rintro e w4 ⟨rfl, rfl⟩
  go_upto_block 0 with fail
  obtain ⟨y0, y1, y2, y3, y4, y5⟩ := (AgS.get hA3 (g := g0) (k := 0) (n := 0) (t := ⟨#[]⟩) List.mem_cons_self).cells
  go_wp2_with fail
  go_loop [9] (fun iv => ∃ k : Nat, iv = .int .i64 (k : Int) ∧ k ≤ N) (fun iv => N - (intOf iv).toNat)
  case atStart => exact ⟨0, by go_num, by omega⟩
  case round =>
    obtain ⟨k, rfl, hk⟩ := hrel
    by_cases hlt : k < N
    · have hlk : k < vs.length := by rw [hlen.out]; exact hlt
      obtain ⟨v, hvk⟩ : ∃ v, vs[k] = v := ⟨_, rfl⟩
      have hgk : vs[k]? = some v := by rw [List.getElem?_eq_getElem hlk, hvk]
      have hvz : (v.kind == 0) = false := by
        have := hz.out v (by rw [← hvk]; exact List.getElem_mem hlk)
        simpa using this
      obtain ⟨b', off', he, hat⟩ := (hA.below hA3.2).get hgk
      cases he
      obtain ⟨c0, c1, c2, _⟩ := hat
      have lB : decide ((k : Int) < (N : Int)) = true := by simp; omega
      have i0 : (0 : Int) ≤ (k : Int) := by omega
      have i1 : (k : Int) < (N : Int) := by omega
      clear hvk hgk hlk
      go_wp2
      go_round
      case rel => exact ⟨k + 1, by go_num, by omega⟩
      case measure => simp [intOf]; omega
    · have lB : decide ((k : Int) < (N : Int)) = false := by simp; omega
      go_wp2_with fail
      refine (hdo _ hA3.2).mono ?_
      rintro e w5 ⟨rfl, hb5⟩
      have hA5 := hA3.on hb5
      clear y0 y1 y2 y3 y4 y5
      obtain ⟨y0, y1, y2, y3, y4, y5⟩ := (AgS.get hA5 (g := g0) (k := 0) (n := 0) (t := ⟨#[]⟩) List.mem_cons_self).cells
      go_wp2
      exact bodyPost_ret (v := .tuple #[.agg #[.int .i64 k', .int .i64 n', .string t'], .int .i64 0]) (by simp only [results, Tryz.results11]; go_simp) rfl ⟨rfl, below_put hA5.2 hw0.out⟩

set_option maxHeartbeats 2000000 in
theorem rcall18_length (x : ByteArray) (hx : x.size ≤ 1048576) (hf : Hid (bs (x.data.toList.map Txt.lower) = ⟨#[108, 101, 110, 103, 116, 104]⟩)) (c : Int) (b off : Nat) (N cap : Nat) (vs : List Val.V) (w : World) (hA : ValsAt w (some ⟨b, off, none⟩) N vs) (hN : N ≤ 1048576) (hHas : HasP ⟨#[108, 101, 110, 103, 116, 104]⟩ N true) (hc : vs.all Val.may = true) (hz : ∀ v ∈ vs, v.kind ≠ 0) (k' n' : Int) (t' : ByteArray) (hdo : ∀ W : World, Below w.heap.size w W → Calls Tryz.prog 37 #[.string ⟨#[108, 101, 110, 103, 116, 104]⟩, .slice (some ⟨b, off, none⟩) N cap] W (VRet k' n' t' W)) :
    Calls Tryz.prog 11 #[.string x, .int .i64 c, .slice (some ⟨b, off, none⟩) N cap] w (VRet2 k' n' t' 0 w) := by
  obtain ⟨g0, hg0⟩ : ∃ g, w.heap.size = g := ⟨_, rfl⟩
  have hA0 := AgS.one w 0 0 ⟨#[]⟩
  rw [hg0] at hA0
  have hw0 : w.heap.size ≤ g0 := Nat.le_of_eq hg0
  replace hw0 := Lib.hid hw0
  replace hg0 := Lib.hid hg0
  have hcv : ((vcheck vs : Int) == 2) = false := by
    unfold vcheck
    rw [if_pos hc]
    split <;> rfl
  clear hc
  have hlen := hA.1
  replace hlen := Lib.hid hlen
  replace hz := Lib.hid hz
  go_enter Tryz.func11, Tryz.ntmps11
  go_upto_region 1 with fail
  rw [hg0.out]
  go_wp2_with fail
  refine (rlower_any _ _ hx _ hf).mono ?_
  rintro e w1 ⟨rfl, hb1⟩
  have hA1 := hA0.on hb1
  go_wp2_with fail
  refine (hHas _).mono ?_
  rintro e w2 ⟨rfl, rfl⟩
  go_wp2_with fail
  refine (rcheck_any _ _ _ vs _ (hA.below hA1.2) hN).mono ?_
  rintro e w3 ⟨rfl, hb3⟩
  have hA3 := hA1.on hb3
  go_wp2_with fail
  refine (rnulls18_length _).mono ?_
  rintro e w4 ⟨rfl, rfl⟩
  go_upto_block 0 with fail
  obtain ⟨y0, y1, y2, y3, y4, y5⟩ := (AgS.get hA3 (g := g0) (k := 0) (n := 0) (t := ⟨#[]⟩) List.mem_cons_self).cells
  go_wp2_with fail
  go_loop [9] (fun iv => ∃ k : Nat, iv = .int .i64 (k : Int) ∧ k ≤ N) (fun iv => N - (intOf iv).toNat)
  case atStart => exact ⟨0, by go_num, by omega⟩
  case round =>
    obtain ⟨k, rfl, hk⟩ := hrel
    by_cases hlt : k < N
    · have hlk : k < vs.length := by rw [hlen.out]; exact hlt
      obtain ⟨v, hvk⟩ : ∃ v, vs[k] = v := ⟨_, rfl⟩
      have hgk : vs[k]? = some v := by rw [List.getElem?_eq_getElem hlk, hvk]
      have hvz : (v.kind == 0) = false := by
        have := hz.out v (by rw [← hvk]; exact List.getElem_mem hlk)
        simpa using this
      obtain ⟨b', off', he, hat⟩ := (hA.below hA3.2).get hgk
      cases he
      obtain ⟨c0, c1, c2, _⟩ := hat
      have lB : decide ((k : Int) < (N : Int)) = true := by simp; omega
      have i0 : (0 : Int) ≤ (k : Int) := by omega
      have i1 : (k : Int) < (N : Int) := by omega
      clear hvk hgk hlk
      go_wp2
      go_round
      case rel => exact ⟨k + 1, by go_num, by omega⟩
      case measure => simp [intOf]; omega
    · have lB : decide ((k : Int) < (N : Int)) = false := by simp; omega
      go_wp2_with fail
      refine (hdo _ hA3.2).mono ?_
      rintro e w5 ⟨rfl, hb5⟩
      have hA5 := hA3.on hb5
      clear y0 y1 y2 y3 y4 y5
      obtain ⟨y0, y1, y2, y3, y4, y5⟩ := (AgS.get hA5 (g := g0) (k := 0) (n := 0) (t := ⟨#[]⟩) List.mem_cons_self).cells
      go_wp2
      exact bodyPost_ret (v := .tuple #[.agg #[.int .i64 k', .int .i64 n', .string t'], .int .i64 0]) (by simp only [results, Tryz.results11]; go_simp) rfl ⟨rfl, below_put hA5.2 hw0.out⟩

set_option maxHeartbeats 2000000 in
theorem rcall18_lower (x : ByteArray) (hx : x.size ≤ 1048576) (hf : Hid (bs (x.data.toList.map Txt.lower) = ⟨#[108, 111, 119, 101, 114]⟩)) (c : Int) (b off : Nat) (N cap : Nat) (vs : List Val.V) (w : World) (hA : ValsAt w (some ⟨b, off, none⟩) N vs) (hN : N ≤ 1048576) (hHas : HasP ⟨#[108, 111, 119, 101, 114]⟩ N true) (hc : vs.all Val.may = true) (hz : ∀ v ∈ vs, v.kind ≠ 0) (k' n' : Int) (t' : ByteArray) (hdo : ∀ W : World, Below w.heap.size w W → Calls Tryz.prog 37 #[.string ⟨#[108, 111, 119, 101, 114]⟩, .slice (some ⟨b, off, none⟩) N cap] W (VRet k' n' t' W)) :
    Calls Tryz.prog 11 #[.string x, .int .i64 c, .slice (some ⟨b, off, none⟩) N cap] w (VRet2 k' n' t' 0 w) := by
  obtain ⟨g0, hg0⟩ : ∃ g, w.heap.size = g := ⟨_, rfl⟩
  have hA0 := AgS.one w 0 0 ⟨#[]⟩
  rw [hg0] at hA0
  have hw0 : w.heap.size ≤ g0 := Nat.le_of_eq hg0
  replace hw0 := Lib.hid hw0
  replace hg0 := Lib.hid hg0
  have hcv : ((vcheck vs : Int) == 2) = false := by
    unfold vcheck
    rw [if_pos hc]
    split <;> rfl
  clear hc
  have hlen := hA.1
  replace hlen := Lib.hid hlen
  replace hz := Lib.hid hz
  go_enter Tryz.func11, Tryz.ntmps11
  go_upto_region 1 with fail
  rw [hg0.out]
  go_wp2_with fail
  refine (rlower_any _ _ hx _ hf).mono ?_
  rintro e w1 ⟨rfl, hb1⟩
  have hA1 := hA0.on hb1
  go_wp2_with fail
  refine (hHas _).mono ?_
  rintro e w2 ⟨rfl, rfl⟩
  go_wp2_with fail
  refine (rcheck_any _ _ _ vs _ (hA.below hA1.2) hN).mono ?_
  rintro e w3 ⟨rfl, hb3⟩
  have hA3 := hA1.on hb3
  go_wp2_with fail
  refine (rnulls18_lower _).mono ?_
  rintro e w4 ⟨rfl, rfl⟩
  go_upto_block 0 with fail
  obtain ⟨y0, y1, y2, y3, y4, y5⟩ := (AgS.get hA3 (g := g0) (k := 0) (n := 0) (t := ⟨#[]⟩) List.mem_cons_self).cells
  go_wp2_with fail
  go_loop [9] (fun iv => ∃ k : Nat, iv = .int .i64 (k : Int) ∧ k ≤ N) (fun iv => N - (intOf iv).toNat)
  case atStart => exact ⟨0, by go_num, by omega⟩
  case round =>
    obtain ⟨k, rfl, hk⟩ := hrel
    by_cases hlt : k < N
    · have hlk : k < vs.length := by rw [hlen.out]; exact hlt
      obtain ⟨v, hvk⟩ : ∃ v, vs[k] = v := ⟨_, rfl⟩
      have hgk : vs[k]? = some v := by rw [List.getElem?_eq_getElem hlk, hvk]
      have hvz : (v.kind == 0) = false := by
        have := hz.out v (by rw [← hvk]; exact List.getElem_mem hlk)
        simpa using this
      obtain ⟨b', off', he, hat⟩ := (hA.below hA3.2).get hgk
      cases he
      obtain ⟨c0, c1, c2, _⟩ := hat
      have lB : decide ((k : Int) < (N : Int)) = true := by simp; omega
      have i0 : (0 : Int) ≤ (k : Int) := by omega
      have i1 : (k : Int) < (N : Int) := by omega
      clear hvk hgk hlk
      go_wp2
      go_round
      case rel => exact ⟨k + 1, by go_num, by omega⟩
      case measure => simp [intOf]; omega
    · have lB : decide ((k : Int) < (N : Int)) = false := by simp; omega
      go_wp2_with fail
      refine (hdo _ hA3.2).mono ?_
      rintro e w5 ⟨rfl, hb5⟩
      have hA5 := hA3.on hb5
      clear y0 y1 y2 y3 y4 y5
      obtain ⟨y0, y1, y2, y3, y4, y5⟩ := (AgS.get hA5 (g := g0) (k := 0) (n := 0) (t := ⟨#[]⟩) List.mem_cons_self).cells
      go_wp2
      exact bodyPost_ret (v := .tuple #[.agg #[.int .i64 k', .int .i64 n', .string t'], .int .i64 0]) (by simp only [results, Tryz.results11]; go_simp) rfl ⟨rfl, below_put hA5.2 hw0.out⟩

set_option maxHeartbeats 2000000 in
theorem rcall18_ltrim (x : ByteArray) (hx : x.size ≤ 1048576) (hf : Hid (bs (x.data.toList.map Txt.lower) = ⟨#[108, 116, 114, 105, 109]⟩)) (c : Int) (b off : Nat) (N cap : Nat) (vs : List Val.V) (w : World) (hA : ValsAt w (some ⟨b, off, none⟩) N vs) (hN : N ≤ 1048576) (hHas : HasP ⟨#[108, 116, 114, 105, 109]⟩ N true) (hc : vs.all Val.may = true) (hz : ∀ v ∈ vs, v.kind ≠ 0) (k' n' : Int) (t' : ByteArray) (hdo : ∀ W : World, Below w.heap.size w W → Calls Tryz.prog 37 #[.string ⟨#[108, 116, 114, 105, 109]⟩, .slice (some ⟨b, off, none⟩) N cap] W (VRet k' n' t' W)) :
    Calls Tryz.prog 11 #[.string x, .int .i64 c, .slice (some ⟨b, off, none⟩) N cap] w (VRet2 k' n' t' 0 w) := by
  obtain ⟨g0, hg0⟩ : ∃ g, w.heap.size = g := ⟨_, rfl⟩
  have hA0 := AgS.one w 0 0 ⟨#[]⟩
  rw [hg0] at hA0
  have hw0 : w.heap.size ≤ g0 := Nat.le_of_eq hg0
  replace hw0 := Lib.hid hw0
  replace hg0 := Lib.hid hg0
  have hcv : ((vcheck vs : Int) == 2) = false := by
    unfold vcheck
    rw [if_pos hc]
    split <;> rfl
  clear hc
  have hlen := hA.1
  replace hlen := Lib.hid hlen
  replace hz := Lib.hid hz
  go_enter Tryz.func11, Tryz.ntmps11
  go_upto_region 1 with fail
  rw [hg0.out]
  go_wp2_with fail
  refine (rlower_any _ _ hx _ hf).mono ?_
  rintro e w1 ⟨rfl, hb1⟩
  have hA1 := hA0.on hb1
  go_wp2_with fail
  refine (hHas _).mono ?_
  rintro e w2 ⟨rfl, rfl⟩
  go_wp2_with fail
  refine (rcheck_any _ _ _ vs _ (hA.below hA1.2) hN).mono ?_
  rintro e w3 ⟨rfl, hb3⟩
  have hA3 := hA1.on hb3
  go_wp2_with fail
  refine (rnulls18_ltrim _).mono ?_
  rintro e w4 ⟨rfl, rfl⟩
  go_upto_block 0 with fail
  obtain ⟨y0, y1, y2, y3, y4, y5⟩ := (AgS.get hA3 (g := g0) (k := 0) (n := 0) (t := ⟨#[]⟩) List.mem_cons_self).cells
  go_wp2_with fail
  go_loop [9] (fun iv => ∃ k : Nat, iv = .int .i64 (k : Int) ∧ k ≤ N) (fun iv => N - (intOf iv).toNat)
  case atStart => exact ⟨0, by go_num, by omega⟩
  case round =>
    obtain ⟨k, rfl, hk⟩ := hrel
    by_cases hlt : k < N
    · have hlk : k < vs.length := by rw [hlen.out]; exact hlt
      obtain ⟨v, hvk⟩ : ∃ v, vs[k] = v := ⟨_, rfl⟩
      have hgk : vs[k]? = some v := by rw [List.getElem?_eq_getElem hlk, hvk]
      have hvz : (v.kind == 0) = false := by
        have := hz.out v (by rw [← hvk]; exact List.getElem_mem hlk)
        simpa using this
      obtain ⟨b', off', he, hat⟩ := (hA.below hA3.2).get hgk
      cases he
      obtain ⟨c0, c1, c2, _⟩ := hat
      have lB : decide ((k : Int) < (N : Int)) = true := by simp; omega
      have i0 : (0 : Int) ≤ (k : Int) := by omega
      have i1 : (k : Int) < (N : Int) := by omega
      clear hvk hgk hlk
      go_wp2
      go_round
      case rel => exact ⟨k + 1, by go_num, by omega⟩
      case measure => simp [intOf]; omega
    · have lB : decide ((k : Int) < (N : Int)) = false := by simp; omega
      go_wp2_with fail
      refine (hdo _ hA3.2).mono ?_
      rintro e w5 ⟨rfl, hb5⟩
      have hA5 := hA3.on hb5
      clear y0 y1 y2 y3 y4 y5
      obtain ⟨y0, y1, y2, y3, y4, y5⟩ := (AgS.get hA5 (g := g0) (k := 0) (n := 0) (t := ⟨#[]⟩) List.mem_cons_self).cells
      go_wp2
      exact bodyPost_ret (v := .tuple #[.agg #[.int .i64 k', .int .i64 n', .string t'], .int .i64 0]) (by simp only [results, Tryz.results11]; go_simp) rfl ⟨rfl, below_put hA5.2 hw0.out⟩

set_option maxHeartbeats 2000000 in
theorem rcall18_max (x : ByteArray) (hx : x.size ≤ 1048576) (hf : Hid (bs (x.data.toList.map Txt.lower) = ⟨#[109, 97, 120]⟩)) (c : Int) (b off : Nat) (N cap : Nat) (vs : List Val.V) (w : World) (hA : ValsAt w (some ⟨b, off, none⟩) N vs) (hN : N ≤ 1048576) (hHas : HasP ⟨#[109, 97, 120]⟩ N true) (hc : vs.all Val.may = true) (hz : ∀ v ∈ vs, v.kind ≠ 0) (k' n' : Int) (t' : ByteArray) (hdo : ∀ W : World, Below w.heap.size w W → Calls Tryz.prog 35 #[.slice (some ⟨b, off, none⟩) N cap, .int .i64 1, .int .i64 c] W (VRet k' n' t' W)) :
    Calls Tryz.prog 11 #[.string x, .int .i64 c, .slice (some ⟨b, off, none⟩) N cap] w (VRet2 k' n' t' 0 w) := by
  obtain ⟨g0, hg0⟩ : ∃ g, w.heap.size = g := ⟨_, rfl⟩
  have hA0 := AgS.one w 0 0 ⟨#[]⟩
  rw [hg0] at hA0
  have hw0 : w.heap.size ≤ g0 := Nat.le_of_eq hg0
  replace hw0 := Lib.hid hw0
  replace hg0 := Lib.hid hg0
  have hcv : ((vcheck vs : Int) == 2) = false := by
    unfold vcheck
    rw [if_pos hc]
    split <;> rfl
  clear hc
  have hlen := hA.1
  replace hlen := Lib.hid hlen
  replace hz := Lib.hid hz
  go_enter Tryz.func11, Tryz.ntmps11
  go_upto_region 1 with fail
  rw [hg0.out]
  go_wp2_with fail
  refine (rlower_any _ _ hx _ hf).mono ?_
  rintro e w1 ⟨rfl, hb1⟩
  have hA1 := hA0.on hb1
  go_wp2_with fail
  refine (hHas _).mono ?_
  rintro e w2 ⟨rfl, rfl⟩
  go_wp2_with fail
  refine (rcheck_any _ _ _ vs _ (hA.below hA1.2) hN).mono ?_
  rintro e w3 ⟨rfl, hb3⟩
  have hA3 := hA1.on hb3
  go_wp2_with fail
  refine (rnulls18_max _).mono ?_
  rintro e w4 ⟨rfl, rfl⟩
  go_upto_block 0 with fail
  obtain ⟨y0, y1, y2, y3, y4, y5⟩ := (AgS.get hA3 (g := g0) (k := 0) (n := 0) (t := ⟨#[]⟩) List.mem_cons_self).cells
  go_wp2_with fail
  go_loop [9] (fun iv => ∃ k : Nat, iv = .int .i64 (k : Int) ∧ k ≤ N) (fun iv => N - (intOf iv).toNat)
  case atStart => exact ⟨0, by go_num, by omega⟩
  case round =>
    obtain ⟨k, rfl, hk⟩ := hrel
    by_cases hlt : k < N
    · have hlk : k < vs.length := by rw [hlen.out]; exact hlt
      obtain ⟨v, hvk⟩ : ∃ v, vs[k] = v := ⟨_, rfl⟩
      have hgk : vs[k]? = some v := by rw [List.getElem?_eq_getElem hlk, hvk]
      have hvz : (v.kind == 0) = false := by
        have := hz.out v (by rw [← hvk]; exact List.getElem_mem hlk)
        simpa using this
      obtain ⟨b', off', he, hat⟩ := (hA.below hA3.2).get hgk
      cases he
      obtain ⟨c0, c1, c2, _⟩ := hat
      have lB : decide ((k : Int) < (N : Int)) = true := by simp; omega
      have i0 : (0 : Int) ≤ (k : Int) := by omega
      have i1 : (k : Int) < (N : Int) := by omega
      clear hvk hgk hlk
      go_wp2
      go_round
      case rel => exact ⟨k + 1, by go_num, by omega⟩
      case measure => simp [intOf]; omega
    · have lB : decide ((k : Int) < (N : Int)) = false := by simp; omega
      go_wp2_with fail
      refine (hdo _ hA3.2).mono ?_
      rintro e w5 ⟨rfl, hb5⟩
      have hA5 := hA3.on hb5
      clear y0 y1 y2 y3 y4 y5
      obtain ⟨y0, y1, y2, y3, y4, y5⟩ := (AgS.get hA5 (g := g0) (k := 0) (n := 0) (t := ⟨#[]⟩) List.mem_cons_self).cells
      go_wp2
      exact bodyPost_ret (v := .tuple #[.agg #[.int .i64 k', .int .i64 n', .string t'], .int .i64 0]) (by simp only [results, Tryz.results11]; go_simp) rfl ⟨rfl, below_put hA5.2 hw0.out⟩

set_option maxHeartbeats 2000000 in
theorem rcall18_min (x : ByteArray) (hx : x.size ≤ 1048576) (hf : Hid (bs (x.data.toList.map Txt.lower) = ⟨#[109, 105, 110]⟩)) (c : Int) (b off : Nat) (N cap : Nat) (vs : List Val.V) (w : World) (hA : ValsAt w (some ⟨b, off, none⟩) N vs) (hN : N ≤ 1048576) (hHas : HasP ⟨#[109, 105, 110]⟩ N true) (hc : vs.all Val.may = true) (hz : ∀ v ∈ vs, v.kind ≠ 0) (k' n' : Int) (t' : ByteArray) (hdo : ∀ W : World, Below w.heap.size w W → Calls Tryz.prog 35 #[.slice (some ⟨b, off, none⟩) N cap, .int .i64 (-1), .int .i64 c] W (VRet k' n' t' W)) :
    Calls Tryz.prog 11 #[.string x, .int .i64 c, .slice (some ⟨b, off, none⟩) N cap] w (VRet2 k' n' t' 0 w) := by
  obtain ⟨g0, hg0⟩ : ∃ g, w.heap.size = g := ⟨_, rfl⟩
  have hA0 := AgS.one w 0 0 ⟨#[]⟩
  rw [hg0] at hA0
  have hw0 : w.heap.size ≤ g0 := Nat.le_of_eq hg0
  replace hw0 := Lib.hid hw0
  replace hg0 := Lib.hid hg0
  have hcv : ((vcheck vs : Int) == 2) = false := by
    unfold vcheck
    rw [if_pos hc]
    split <;> rfl
  clear hc
  have hlen := hA.1
  replace hlen := Lib.hid hlen
  replace hz := Lib.hid hz
  go_enter Tryz.func11, Tryz.ntmps11
  go_upto_region 1 with fail
  rw [hg0.out]
  go_wp2_with fail
  refine (rlower_any _ _ hx _ hf).mono ?_
  rintro e w1 ⟨rfl, hb1⟩
  have hA1 := hA0.on hb1
  go_wp2_with fail
  refine (hHas _).mono ?_
  rintro e w2 ⟨rfl, rfl⟩
  go_wp2_with fail
  refine (rcheck_any _ _ _ vs _ (hA.below hA1.2) hN).mono ?_
  rintro e w3 ⟨rfl, hb3⟩
  have hA3 := hA1.on hb3
  go_wp2_with fail
  refine (rnulls18_min _).mono ?_
  rintro e w4 ⟨rfl, rfl⟩
  go_upto_block 0 with fail
  obtain ⟨y0, y1, y2, y3, y4, y5⟩ := (AgS.get hA3 (g := g0) (k := 0) (n := 0) (t := ⟨#[]⟩) List.mem_cons_self).cells
  go_wp2_with fail
  go_loop [9] (fun iv => ∃ k : Nat, iv = .int .i64 (k : Int) ∧ k ≤ N) (fun iv => N - (intOf iv).toNat)
  case atStart => exact ⟨0, by go_num, by omega⟩
  case round =>
    obtain ⟨k, rfl, hk⟩ := hrel
    by_cases hlt : k < N
    · have hlk : k < vs.length := by rw [hlen.out]; exact hlt
      obtain ⟨v, hvk⟩ : ∃ v, vs[k] = v := ⟨_, rfl⟩
      have hgk : vs[k]? = some v := by rw [List.getElem?_eq_getElem hlk, hvk]
      have hvz : (v.kind == 0) = false := by
        have := hz.out v (by rw [← hvk]; exact List.getElem_mem hlk)
        simpa using this
      obtain ⟨b', off', he, hat⟩ := (hA.below hA3.2).get hgk
      cases he
      obtain ⟨c0, c1, c2, _⟩ := hat
      have lB : decide ((k : Int) < (N : Int)) = true := by simp; omega
      have i0 : (0 : Int) ≤ (k : Int) := by omega
      have i1 : (k : Int) < (N : Int) := by omega
      clear hvk hgk hlk
      go_wp2
      go_round
      case rel => exact ⟨k + 1, by go_num, by omega⟩
      case measure => simp [intOf]; omega
    · have lB : decide ((k : Int) < (N : Int)) = false := by simp; omega
      go_wp2_with fail
      refine (hdo _ hA3.2).mono ?_
      rintro e w5 ⟨rfl, hb5⟩
      have hA5 := hA3.on hb5
      clear y0 y1 y2 y3 y4 y5
      obtain ⟨y0, y1, y2, y3, y4, y5⟩ := (AgS.get hA5 (g := g0) (k := 0) (n := 0) (t := ⟨#[]⟩) List.mem_cons_self).cells
      go_wp2
      exact bodyPost_ret (v := .tuple #[.agg #[.int .i64 k', .int .i64 n', .string t'], .int .i64 0]) (by simp only [results, Tryz.results11]; go_simp) rfl ⟨rfl, below_put hA5.2 hw0.out⟩

set_option maxHeartbeats 2000000 in
theorem rcall18_replace (x : ByteArray) (hx : x.size ≤ 1048576) (hf : Hid (bs (x.data.toList.map Txt.lower) = ⟨#[114, 101, 112, 108, 97, 99, 101]⟩)) (c : Int) (b off : Nat) (N cap : Nat) (vs : List Val.V) (w : World) (hA : ValsAt w (some ⟨b, off, none⟩) N vs) (hN : N ≤ 1048576) (hHas : HasP ⟨#[114, 101, 112, 108, 97, 99, 101]⟩ N true) (hc : vs.all Val.may = true) (hz : ∀ v ∈ vs, v.kind ≠ 0) (k' n' : Int) (t' : ByteArray) (hdo : ∀ W : World, Below w.heap.size w W → Calls Tryz.prog 37 #[.string ⟨#[114, 101, 112, 108, 97, 99, 101]⟩, .slice (some ⟨b, off, none⟩) N cap] W (VRet k' n' t' W)) :
    Calls Tryz.prog 11 #[.string x, .int .i64 c, .slice (some ⟨b, off, none⟩) N cap] w (VRet2 k' n' t' 0 w) := by
  obtain ⟨g0, hg0⟩ : ∃ g, w.heap.size = g := ⟨_, rfl⟩
  have hA0 := AgS.one w 0 0 ⟨#[]⟩
  rw [hg0] at hA0
  have hw0 : w.heap.size ≤ g0 := Nat.le_of_eq hg0
  replace hw0 := Lib.hid hw0
  replace hg0 := Lib.hid hg0
  have hcv : ((vcheck vs : Int) == 2) = false := by
    unfold vcheck
    rw [if_pos hc]
    split <;> rfl
  clear hc
  have hlen := hA.1
  replace hlen := Lib.hid hlen
  replace hz := Lib.hid hz
  go_enter Tryz.func11, Tryz.ntmps11
  go_upto_region 1 with fail
  rw [hg0.out]
  go_wp2_with fail
  refine (rlower_any _ _ hx _ hf).mono ?_
  rintro e w1 ⟨rfl, hb1⟩
  have hA1 := hA0.on hb1
  go_wp2_with fail
  refine (hHas _).mono ?_
  rintro e w2 ⟨rfl, rfl⟩
  go_wp2_with fail
  refine (rcheck_any _ _ _ vs _ (hA.below hA1.2) hN).mono ?_
  rintro e w3 ⟨rfl, hb3⟩
  have hA3 := hA1.on hb3
  go_wp2_with fail
  refine (rnulls18_replace _).mono ?_
  rintro e w4 ⟨rfl, rfl⟩
  go_upto_block 0 with fail
  obtain ⟨y0, y1, y2, y3, y4, y5⟩ := (AgS.get hA3 (g := g0) (k := 0) (n := 0) (t := ⟨#[]⟩) List.mem_cons_self).cells
  go_wp2_with fail
  go_loop [9] (fun iv => ∃ k : Nat, iv = .int .i64 (k : Int) ∧ k ≤ N) (fun iv => N - (intOf iv).toNat)
  case atStart => exact ⟨0, by go_num, by omega⟩
  case round =>
    obtain ⟨k, rfl, hk⟩ := hrel
    by_cases hlt : k < N
    · have hlk : k < vs.length := by rw [hlen.out]; exact hlt
      obtain ⟨v, hvk⟩ : ∃ v, vs[k] = v := ⟨_, rfl⟩
      have hgk : vs[k]? = some v := by rw [List.getElem?_eq_getElem hlk, hvk]
      have hvz : (v.kind == 0) = false := by
        have := hz.out v (by rw [← hvk]; exact List.getElem_mem hlk)
        simpa using this
      obtain ⟨b', off', he, hat⟩ := (hA.below hA3.2).get hgk
      cases he
      obtain ⟨c0, c1, c2, _⟩ := hat
      have lB : decide ((k : Int) < (N : Int)) = true := by simp; omega
      have i0 : (0 : Int) ≤ (k : Int) := by omega
      have i1 : (k : Int) < (N : Int) := by omega
      clear hvk hgk hlk
      go_wp2
      go_round
      case rel => exact ⟨k + 1, by go_num, by omega⟩
      case measure => simp [intOf]; omega
    · have lB : decide ((k : Int) < (N : Int)) = false := by simp; omega
      go_wp2_with fail
      refine (hdo _ hA3.2).mono ?_
      rintro e w5 ⟨rfl, hb5⟩
      have hA5 := hA3.on hb5
      clear y0 y1 y2 y3 y4 y5
      obtain ⟨y0, y1, y2, y3, y4, y5⟩ := (AgS.get hA5 (g := g0) (k := 0) (n := 0) (t := ⟨#[]⟩) List.mem_cons_self).cells
      go_wp2
      exact bodyPost_ret (v := .tuple #[.agg #[.int .i64 k', .int .i64 n', .string t'], .int .i64 0]) (by simp only [results, Tryz.results11]; go_simp) rfl ⟨rfl, below_put hA5.2 hw0.out⟩

set_option maxHeartbeats 2000000 in
theorem rcall18_rtrim (x : ByteArray) (hx : x.size ≤ 1048576) (hf : Hid (bs (x.data.toList.map Txt.lower) = ⟨#[114, 116, 114, 105, 109]⟩)) (c : Int) (b off : Nat) (N cap : Nat) (vs : List Val.V) (w : World) (hA : ValsAt w (some ⟨b, off, none⟩) N vs) (hN : N ≤ 1048576) (hHas : HasP ⟨#[114, 116, 114, 105, 109]⟩ N true) (hc : vs.all Val.may = true) (hz : ∀ v ∈ vs, v.kind ≠ 0) (k' n' : Int) (t' : ByteArray) (hdo : ∀ W : World, Below w.heap.size w W → Calls Tryz.prog 37 #[.string ⟨#[114, 116, 114, 105, 109]⟩, .slice (some ⟨b, off, none⟩) N cap] W (VRet k' n' t' W)) :
    Calls Tryz.prog 11 #[.string x, .int .i64 c, .slice (some ⟨b, off, none⟩) N cap] w (VRet2 k' n' t' 0 w) := by
  obtain ⟨g0, hg0⟩ : ∃ g, w.heap.size = g := ⟨_, rfl⟩
  have hA0 := AgS.one w 0 0 ⟨#[]⟩
  rw [hg0] at hA0
  have hw0 : w.heap.size ≤ g0 := Nat.le_of_eq hg0
  replace hw0 := Lib.hid hw0
  replace hg0 := Lib.hid hg0
  have hcv : ((vcheck vs : Int) == 2) = false := by
    unfold vcheck
    rw [if_pos hc]
    split <;> rfl
  clear hc
  have hlen := hA.1
  replace hlen := Lib.hid hlen
  replace hz := Lib.hid hz
  go_enter Tryz.func11, Tryz.ntmps11
  go_upto_region 1 with fail
  rw [hg0.out]
  go_wp2_with fail
  refine (rlower_any _ _ hx _ hf).mono ?_
  rintro e w1 ⟨rfl, hb1⟩
  have hA1 := hA0.on hb1
  go_wp2_with fail
  refine (hHas _).mono ?_
  rintro e w2 ⟨rfl, rfl⟩
  go_wp2_with fail
  refine (rcheck_any _ _ _ vs _ (hA.below hA1.2) hN).mono ?_
  rintro e w3 ⟨rfl, hb3⟩
  have hA3 := hA1.on hb3
  go_wp2_with fail
  refine (rnulls18_rtrim _).mono ?_
  rintro e w4 ⟨rfl, rfl⟩
  go_upto_block 0 with fail
  obtain ⟨y0, y1, y2, y3, y4, y5⟩ := (AgS.get hA3 (g := g0) (k := 0) (n := 0) (t := ⟨#[]⟩) List.mem_cons_self).cells
  go_wp2_with fail
  go_loop [9] (fun iv => ∃ k : Nat, iv = .int .i64 (k : Int) ∧ k ≤ N) (fun iv => N - (intOf iv).toNat)
  case atStart => exact ⟨0, by go_num, by omega⟩
  case round =>
    obtain ⟨k, rfl, hk⟩ := hrel
    by_cases hlt : k < N
    · have hlk : k < vs.length := by rw [hlen.out]; exact hlt
      obtain ⟨v, hvk⟩ : ∃ v, vs[k] = v := ⟨_, rfl⟩
      have hgk : vs[k]? = some v := by rw [List.getElem?_eq_getElem hlk, hvk]
      have hvz : (v.kind == 0) = false := by
        have := hz.out v (by rw [← hvk]; exact List.getElem_mem hlk)
        simpa using this
      obtain ⟨b', off', he, hat⟩ := (hA.below hA3.2).get hgk
      cases he
      obtain ⟨c0, c1, c2, _⟩ := hat
      have lB : decide ((k : Int) < (N : Int)) = true := by simp; omega
      have i0 : (0 : Int) ≤ (k : Int) := by omega
      have i1 : (k : Int) < (N : Int) := by omega
      clear hvk hgk hlk
      go_wp2
      go_round
      case rel => exact ⟨k + 1, by go_num, by omega⟩
      case measure => simp [intOf]; omega
    · have lB : decide ((k : Int) < (N : Int)) = false := by simp; omega
      go_wp2_with fail
      refine (hdo _ hA3.2).mono ?_
      rintro e w5 ⟨rfl, hb5⟩
      have hA5 := hA3.on hb5
      clear y0 y1 y2 y3 y4 y5
      obtain ⟨y0, y1, y2, y3, y4, y5⟩ := (AgS.get hA5 (g := g0) (k := 0) (n := 0) (t := ⟨#[]⟩) List.mem_cons_self).cells
      go_wp2
      exact bodyPost_ret (v := .tuple #[.agg #[.int .i64 k', .int .i64 n', .string t'], .int .i64 0]) (by simp only [results, Tryz.results11]; go_simp) rfl ⟨rfl, below_put hA5.2 hw0.out⟩

set_option maxHeartbeats 2000000 in
theorem rcall18_sign (x : ByteArray) (hx : x.size ≤ 1048576) (hf : Hid (bs (x.data.toList.map Txt.lower) = ⟨#[115, 105, 103, 110]⟩)) (c : Int) (b off : Nat) (N cap : Nat) (vs : List Val.V) (w : World) (hA : ValsAt w (some ⟨b, off, none⟩) N vs) (hN : N ≤ 1048576) (hHas : HasP ⟨#[115, 105, 103, 110]⟩ N true) (hc : vs.all Val.may = true) (hz : ∀ v ∈ vs, v.kind ≠ 0) (k0 n0 : Int) (t0 : ByteArray) (hv0 : VAt w b off k0 n0 t0) (hN1 : 0 < N) (k' n' : Int) (t' : ByteArray) (hdo : ∀ W : World, Below w.heap.size w W → Calls Tryz.prog 34 #[.string ⟨#[115, 105, 103, 110]⟩, .agg #[.int .i64 k0, .int .i64 n0, .string t0]] W (VRet k' n' t' W)) :
    Calls Tryz.prog 11 #[.string x, .int .i64 c, .slice (some ⟨b, off, none⟩) N cap] w (VRet2 k' n' t' 0 w) := by
  obtain ⟨g0, hg0⟩ : ∃ g, w.heap.size = g := ⟨_, rfl⟩
  have hA0 := AgS.one w 0 0 ⟨#[]⟩
  rw [hg0] at hA0
  have hw0 : w.heap.size ≤ g0 := Nat.le_of_eq hg0
  replace hw0 := Lib.hid hw0
  replace hg0 := Lib.hid hg0
  have hcv : ((vcheck vs : Int) == 2) = false := by
    unfold vcheck
    rw [if_pos hc]
    split <;> rfl
  clear hc
  have hlen := hA.1
  replace hlen := Lib.hid hlen
  replace hz := Lib.hid hz
  go_enter Tryz.func11, Tryz.ntmps11
  go_upto_region 1 with fail
  rw [hg0.out]
  go_wp2_with fail
  refine (rlower_any _ _ hx _ hf).mono ?_
  rintro e w1 ⟨rfl, hb1⟩
  have hA1 := hA0.on hb1
  go_wp2_with fail
  refine (hHas _).mono ?_
  rintro e w2 ⟨rfl, rfl⟩
  go_wp2_with fail
  refine (rcheck_any _ _ _ vs _ (hA.below hA1.2) hN).mono ?_
  rintro e w3 ⟨rfl, hb3⟩
  have hA3 := hA1.on hb3
  go_wp2_with fail
  refine (rnulls18_sign _).mono ?_
  rintro e w4 ⟨rfl, rfl⟩
  go_upto_block 0 with fail
  obtain ⟨y0, y1, y2, y3, y4, y5⟩ := (AgS.get hA3 (g := g0) (k := 0) (n := 0) (t := ⟨#[]⟩) List.mem_cons_self).cells
  obtain ⟨d0, d1, d2, _⟩ := hv0.on hA3.2
  have j0 : (0 : Int) < (N : Int) := by omega
  go_wp2_with fail
  go_loop [9] (fun iv => ∃ k : Nat, iv = .int .i64 (k : Int) ∧ k ≤ N) (fun iv => N - (intOf iv).toNat)
  case atStart => exact ⟨0, by go_num, by omega⟩
  case round =>
    obtain ⟨k, rfl, hk⟩ := hrel
    by_cases hlt : k < N
    · have hlk : k < vs.length := by rw [hlen.out]; exact hlt
      obtain ⟨v, hvk⟩ : ∃ v, vs[k] = v := ⟨_, rfl⟩
      have hgk : vs[k]? = some v := by rw [List.getElem?_eq_getElem hlk, hvk]
      have hvz : (v.kind == 0) = false := by
        have := hz.out v (by rw [← hvk]; exact List.getElem_mem hlk)
        simpa using this
      obtain ⟨b', off', he, hat⟩ := (hA.below hA3.2).get hgk
      cases he
      obtain ⟨c0, c1, c2, _⟩ := hat
      have lB : decide ((k : Int) < (N : Int)) = true := by simp; omega
      have i0 : (0 : Int) ≤ (k : Int) := by omega
      have i1 : (k : Int) < (N : Int) := by omega
      clear hvk hgk hlk
      go_wp2
      go_round
      case rel => exact ⟨k + 1, by go_num, by omega⟩
      case measure => simp [intOf]; omega
    · have lB : decide ((k : Int) < (N : Int)) = false := by simp; omega
      go_wp2_with fail
      refine (hdo _ hA3.2).mono ?_
      rintro e w5 ⟨rfl, hb5⟩
      have hA5 := hA3.on hb5
      clear y0 y1 y2 y3 y4 y5
      obtain ⟨y0, y1, y2, y3, y4, y5⟩ := (AgS.get hA5 (g := g0) (k := 0) (n := 0) (t := ⟨#[]⟩) List.mem_cons_self).cells
      go_wp2
      exact bodyPost_ret (v := .tuple #[.agg #[.int .i64 k', .int .i64 n', .string t'], .int .i64 0]) (by simp only [results, Tryz.results11]; go_simp) rfl ⟨rfl, below_put hA5.2 hw0.out⟩

set_option maxHeartbeats 2000000 in
theorem rcall18_substr (x : ByteArray) (hx : x.size ≤ 1048576) (hf : Hid (bs (x.data.toList.map Txt.lower) = ⟨#[115, 117, 98, 115, 116, 114]⟩)) (c : Int) (b off : Nat) (N cap : Nat) (vs : List Val.V) (w : World) (hA : ValsAt w (some ⟨b, off, none⟩) N vs) (hN : N ≤ 1048576) (hHas : HasP ⟨#[115, 117, 98, 115, 116, 114]⟩ N true) (hc : vs.all Val.may = true) (hz : ∀ v ∈ vs, v.kind ≠ 0) (k' n' : Int) (t' : ByteArray) (hdo : ∀ W : World, Below w.heap.size w W → Calls Tryz.prog 36 #[.slice (some ⟨b, off, none⟩) N cap] W (VRet k' n' t' W)) :
    Calls Tryz.prog 11 #[.string x, .int .i64 c, .slice (some ⟨b, off, none⟩) N cap] w (VRet2 k' n' t' 0 w) := by
  obtain ⟨g0, hg0⟩ : ∃ g, w.heap.size = g := ⟨_, rfl⟩
  have hA0 := AgS.one w 0 0 ⟨#[]⟩
  rw [hg0] at hA0
  have hw0 : w.heap.size ≤ g0 := Nat.le_of_eq hg0
  replace hw0 := Lib.hid hw0
  replace hg0 := Lib.hid hg0
  have hcv : ((vcheck vs : Int) == 2) = false := by
    unfold vcheck
    rw [if_pos hc]
    split <;> rfl
  clear hc
  have hlen := hA.1
  replace hlen := Lib.hid hlen
  replace hz := Lib.hid hz
  go_enter Tryz.func11, Tryz.ntmps11
  go_upto_region 1 with fail
  rw [hg0.out]
  go_wp2_with fail
  refine (rlower_any _ _ hx _ hf).mono ?_
  rintro e w1 ⟨rfl, hb1⟩
  have hA1 := hA0.on hb1
  go_wp2_with fail
  refine (hHas _).mono ?_
  rintro e w2 ⟨rfl, rfl⟩
  go_wp2_with fail
  refine (rcheck_any _ _ _ vs _ (hA.below hA1.2) hN).mono ?_
  rintro e w3 ⟨rfl, hb3⟩
  have hA3 := hA1.on hb3
  go_wp2_with fail
  refine (rnulls18_substr _).mono ?_
  rintro e w4 ⟨rfl, rfl⟩
  go_upto_block 0 with fail
  obtain ⟨y0, y1, y2, y3, y4, y5⟩ := (AgS.get hA3 (g := g0) (k := 0) (n := 0) (t := ⟨#[]⟩) List.mem_cons_self).cells
  go_wp2_with fail
  go_loop [9] (fun iv => ∃ k : Nat, iv = .int .i64 (k : Int) ∧ k ≤ N) (fun iv => N - (intOf iv).toNat)
  case atStart => exact ⟨0, by go_num, by omega⟩
  case round =>
    obtain ⟨k, rfl, hk⟩ := hrel
    by_cases hlt : k < N
    · have hlk : k < vs.length := by rw [hlen.out]; exact hlt
      obtain ⟨v, hvk⟩ : ∃ v, vs[k] = v := ⟨_, rfl⟩
      have hgk : vs[k]? = some v := by rw [List.getElem?_eq_getElem hlk, hvk]
      have hvz : (v.kind == 0) = false := by
        have := hz.out v (by rw [← hvk]; exact List.getElem_mem hlk)
        simpa using this
      obtain ⟨b', off', he, hat⟩ := (hA.below hA3.2).get hgk
      cases he
      obtain ⟨c0, c1, c2, _⟩ := hat
      have lB : decide ((k : Int) < (N : Int)) = true := by simp; omega
      have i0 : (0 : Int) ≤ (k : Int) := by omega
      have i1 : (k : Int) < (N : Int) := by omega
      clear hvk hgk hlk
      go_wp2
      go_round
      case rel => exact ⟨k + 1, by go_num, by omega⟩
      case measure => simp [intOf]; omega
    · have lB : decide ((k : Int) < (N : Int)) = false := by simp; omega
      go_wp2_with fail
      refine (hdo _ hA3.2).mono ?_
      rintro e w5 ⟨rfl, hb5⟩
      have hA5 := hA3.on hb5
      clear y0 y1 y2 y3 y4 y5
      obtain ⟨y0, y1, y2, y3, y4, y5⟩ := (AgS.get hA5 (g := g0) (k := 0) (n := 0) (t := ⟨#[]⟩) List.mem_cons_self).cells
      go_wp2
      exact bodyPost_ret (v := .tuple #[.agg #[.int .i64 k', .int .i64 n', .string t'], .int .i64 0]) (by simp only [results, Tryz.results11]; go_simp) rfl ⟨rfl, below_put hA5.2 hw0.out⟩

set_option maxHeartbeats 2000000 in
theorem rcall18_trim (x : ByteArray) (hx : x.size ≤ 1048576) (hf : Hid (bs (x.data.toList.map Txt.lower) = ⟨#[116, 114, 105, 109]⟩)) (c : Int) (b off : Nat) (N cap : Nat) (vs : List Val.V) (w : World) (hA : ValsAt w (some ⟨b, off, none⟩) N vs) (hN : N ≤ 1048576) (hHas : HasP ⟨#[116, 114, 105, 109]⟩ N true) (hc : vs.all Val.may = true) (hz : ∀ v ∈ vs, v.kind ≠ 0) (k' n' : Int) (t' : ByteArray) (hdo : ∀ W : World, Below w.heap.size w W → Calls Tryz.prog 37 #[.string ⟨#[116, 114, 105, 109]⟩, .slice (some ⟨b, off, none⟩) N cap] W (VRet k' n' t' W)) :
    Calls Tryz.prog 11 #[.string x, .int .i64 c, .slice (some ⟨b, off, none⟩) N cap] w (VRet2 k' n' t' 0 w) := by
  obtain ⟨g0, hg0⟩ : ∃ g, w.heap.size = g := ⟨_, rfl⟩
  have hA0 := AgS.one w 0 0 ⟨#[]⟩
  rw [hg0] at hA0
  have hw0 : w.heap.size ≤ g0 := Nat.le_of_eq hg0
  replace hw0 := Lib.hid hw0
  replace hg0 := Lib.hid hg0
  have hcv : ((vcheck vs : Int) == 2) = false := by
    unfold vcheck
    rw [if_pos hc]
    split <;> rfl
  clear hc
  have hlen := hA.1
  replace hlen := Lib.hid hlen
  replace hz := Lib.hid hz
  go_enter Tryz.func11, Tryz.ntmps11
  go_upto_region 1 with fail
  rw [hg0.out]
  go_wp2_with fail
  refine (rlower_any _ _ hx _ hf).mono ?_
  rintro e w1 ⟨rfl, hb1⟩
  have hA1 := hA0.on hb1
  go_wp2_with fail
  refine (hHas _).mono ?_
  rintro e w2 ⟨rfl, rfl⟩
  go_wp2_with fail
  refine (rcheck_any _ _ _ vs _ (hA.below hA1.2) hN).mono ?_
  rintro e w3 ⟨rfl, hb3⟩
  have hA3 := hA1.on hb3
  go_wp2_with fail
  refine (rnulls18_trim _).mono ?_
  rintro e w4 ⟨rfl, rfl⟩
  go_upto_block 0 with fail
  obtain ⟨y0, y1, y2, y3, y4, y5⟩ := (AgS.get hA3 (g := g0) (k := 0) (n := 0) (t := ⟨#[]⟩) List.mem_cons_self).cells
  go_wp2_with fail
  go_loop [9] (fun iv => ∃ k : Nat, iv = .int .i64 (k : Int) ∧ k ≤ N) (fun iv => N - (intOf iv).toNat)
  case atStart => exact ⟨0, by go_num, by omega⟩
  case round =>
    obtain ⟨k, rfl, hk⟩ := hrel
    by_cases hlt : k < N
    · have hlk : k < vs.length := by rw [hlen.out]; exact hlt
      obtain ⟨v, hvk⟩ : ∃ v, vs[k] = v := ⟨_, rfl⟩
      have hgk : vs[k]? = some v := by rw [List.getElem?_eq_getElem hlk, hvk]
      have hvz : (v.kind == 0) = false := by
        have := hz.out v (by rw [← hvk]; exact List.getElem_mem hlk)
        simpa using this
      obtain ⟨b', off', he, hat⟩ := (hA.below hA3.2).get hgk
      cases he
      obtain ⟨c0, c1, c2, _⟩ := hat
      have lB : decide ((k : Int) < (N : Int)) = true := by simp; omega
      have i0 : (0 : Int) ≤ (k : Int) := by omega
      have i1 : (k : Int) < (N : Int) := by omega
      clear hvk hgk hlk
      go_wp2
      go_round
      case rel => exact ⟨k + 1, by go_num, by omega⟩
      case measure => simp [intOf]; omega
    · have lB : decide ((k : Int) < (N : Int)) = false := by simp; omega
      go_wp2_with fail
      refine (hdo _ hA3.2).mono ?_
      rintro e w5 ⟨rfl, hb5⟩
      have hA5 := hA3.on hb5
      clear y0 y1 y2 y3 y4 y5
      obtain ⟨y0, y1, y2, y3, y4, y5⟩ := (AgS.get hA5 (g := g0) (k := 0) (n := 0) (t := ⟨#[]⟩) List.mem_cons_self).cells
      go_wp2
      exact bodyPost_ret (v := .tuple #[.agg #[.int .i64 k', .int .i64 n', .string t'], .int .i64 0]) (by simp only [results, Tryz.results11]; go_simp) rfl ⟨rfl, below_put hA5.2 hw0.out⟩

set_option maxHeartbeats 2000000 in
theorem rcall18_upper (x : ByteArray) (hx : x.size ≤ 1048576) (hf : Hid (bs (x.data.toList.map Txt.lower) = ⟨#[117, 112, 112, 101, 114]⟩)) (c : Int) (b off : Nat) (N cap : Nat) (vs : List Val.V) (w : World) (hA : ValsAt w (some ⟨b, off, none⟩) N vs) (hN : N ≤ 1048576) (hHas : HasP ⟨#[117, 112, 112, 101, 114]⟩ N true) (hc : vs.all Val.may = true) (hz : ∀ v ∈ vs, v.kind ≠ 0) (k' n' : Int) (t' : ByteArray) (hdo : ∀ W : World, Below w.heap.size w W → Calls Tryz.prog 37 #[.string ⟨#[117, 112, 112, 101, 114]⟩, .slice (some ⟨b, off, none⟩) N cap] W (VRet k' n' t' W)) :
    Calls Tryz.prog 11 #[.string x, .int .i64 c, .slice (some ⟨b, off, none⟩) N cap] w (VRet2 k' n' t' 0 w) := by
  obtain ⟨g0, hg0⟩ : ∃ g, w.heap.size = g := ⟨_, rfl⟩
  have hA0 := AgS.one w 0 0 ⟨#[]⟩
  rw [hg0] at hA0
  have hw0 : w.heap.size ≤ g0 := Nat.le_of_eq hg0
  replace hw0 := Lib.hid hw0
  replace hg0 := Lib.hid hg0
  have hcv : ((vcheck vs : Int) == 2) = false := by
    unfold vcheck
    rw [if_pos hc]
    split <;> rfl
  clear hc
  have hlen := hA.1
  replace hlen := Lib.hid hlen
  replace hz := Lib.hid hz
  go_enter Tryz.func11, Tryz.ntmps11
  go_upto_region 1 with fail
  rw [hg0.out]
  go_wp2_with fail
  refine (rlower_any _ _ hx _ hf).mono ?_
  rintro e w1 ⟨rfl, hb1⟩
  have hA1 := hA0.on hb1
  go_wp2_with fail
  refine (hHas _).mono ?_
  rintro e w2 ⟨rfl, rfl⟩
  go_wp2_with fail
  refine (rcheck_any _ _ _ vs _ (hA.below hA1.2) hN).mono ?_
  rintro e w3 ⟨rfl, hb3⟩
  have hA3 := hA1.on hb3
  go_wp2_with fail
  refine (rnulls18_upper _).mono ?_
  rintro e w4 ⟨rfl, rfl⟩
  go_upto_block 0 with fail
  obtain ⟨y0, y1, y2, y3, y4, y5⟩ := (AgS.get hA3 (g := g0) (k := 0) (n := 0) (t := ⟨#[]⟩) List.mem_cons_self).cells
  go_wp2_with fail
  go_loop [9] (fun iv => ∃ k : Nat, iv = .int .i64 (k : Int) ∧ k ≤ N) (fun iv => N - (intOf iv).toNat)
  case atStart => exact ⟨0, by go_num, by omega⟩
  case round =>
    obtain ⟨k, rfl, hk⟩ := hrel
    by_cases hlt : k < N
    · have hlk : k < vs.length := by rw [hlen.out]; exact hlt
      obtain ⟨v, hvk⟩ : ∃ v, vs[k] = v := ⟨_, rfl⟩
      have hgk : vs[k]? = some v := by rw [List.getElem?_eq_getElem hlk, hvk]
      have hvz : (v.kind == 0) = false := by
        have := hz.out v (by rw [← hvk]; exact List.getElem_mem hlk)
        simpa using this
      obtain ⟨b', off', he, hat⟩ := (hA.below hA3.2).get hgk
      cases he
      obtain ⟨c0, c1, c2, _⟩ := hat
      have lB : decide ((k : Int) < (N : Int)) = true := by simp; omega
      have i0 : (0 : Int) ≤ (k : Int) := by omega
      have i1 : (k : Int) < (N : Int) := by omega
      clear hvk hgk hlk
      go_wp2
      go_round
      case rel => exact ⟨k + 1, by go_num, by omega⟩
      case measure => simp [intOf]; omega
    · have lB : decide ((k : Int) < (N : Int)) = false := by simp; omega
      go_wp2_with fail
      refine (hdo _ hA3.2).mono ?_
      rintro e w5 ⟨rfl, hb5⟩
      have hA5 := hA3.on hb5
      clear y0 y1 y2 y3 y4 y5
      obtain ⟨y0, y1, y2, y3, y4, y5⟩ := (AgS.get hA5 (g := g0) (k := 0) (n := 0) (t := ⟨#[]⟩) List.mem_cons_self).cells
      go_wp2
      exact bodyPost_ret (v := .tuple #[.agg #[.int .i64 k', .int .i64 n', .string t'], .int .i64 0]) (by simp only [results, Tryz.results11]; go_simp) rfl ⟨rfl, below_put hA5.2 hw0.out⟩

end Go.Proofs.YtmkgalcojoeniaaGreatDoor

namespace Go.Proofs.YtmkgalcojoeniaaGreatDoor
open Go.RowKit

theorem fitsB_num {k : Nat} {n : Int} (h : fitsB k n = true) : fleasts.getD k 0 ≤ n ∧ (fmosts.getD k 0 < 0 ∨ n ≤ fmosts.getD k 0) := by
  unfold fitsB at h
  rw [Bool.and_eq_true, Bool.or_eq_true, decide_eq_true_iff, decide_eq_true_iff, decide_eq_true_iff] at h
  exact h
theorem all_may {vs : List Val.V} (h : vs.all Val.may = true) {v : Val.V} (hv : v ∈ vs) : Val.may v = true := List.all_eq_true.1 h v hv
theorem trim_len (cut : List UInt8) (l r : Bool) (s : List UInt8) : (trimT cut l r s).length ≤ s.length := by
  unfold trimT
  have h1 := trimL_len cut s
  have h2 := trimR_len cut s
  have h3 := trimR_len cut (trimL cut s)
  cases l <;> cases r <;> simp <;> omega
theorem ptext_small {l : List UInt8} (h : l.length ≤ 400) : Val.ptext l = ⟨2, 0, l⟩ := by unfold Val.ptext; rw [if_neg (by omega)]
theorem may_zero {v : Val.V} (h : Val.may v = true) (h0 : v.kind = 0) : Val.zero = v := by
  rcases Val.may_iff.1 h with ⟨a, b, d⟩ | ⟨a, _⟩ | ⟨a, _⟩
  · obtain ⟨k, n, t⟩ := v
    simp only at a b d
    subst a b d
    rfl
  · omega
  · omega
theorem rd_abs (x : ByteArray) (hx : x.size ≤ 1048576) (hF : Hid (bs (x.data.toList.map Txt.lower) = ⟨#[97, 98, 115]⟩)) (c : Int) (p : Option Addr) (N cap : Nat) (vs : List Val.V) (w : World) (hL : Lits w) (hA : ValsAt w p N vs) (hN : N ≤ 1048576) (hc : vs.all Val.may = true) (hi : ∀ v ∈ vs, Val.inr v.int) (hz : ∀ v ∈ vs, v.kind ≠ 0) (hfit : fitsB 0 (N : Int) = true) (k' n' : Int) (t' : ByteArray) (hv : fnV 0 c vs = ⟨k', n', t'.data.toList⟩) :
    Calls Tryz.prog 11 #[.string x, .int .i64 c, .slice p N cap] w (VRet2 k' n' t' 0 w) := by
  have hHas : HasP ⟨#[97, 98, 115]⟩ N true := fun W => rhas18_abs (N : Int) W true (Lib.hid hfit)
  have hlen := hA.1
  have q1 : (1 : Int) ≤ (N : Int) := (fitsB_num hfit).1
  have q2 : (1 : Int) < 0 ∨ (N : Int) ≤ 1 := (fitsB_num hfit).2
  obtain ⟨v, rfl⟩ := len1 (show vs.length = 1 by omega)
  obtain rfl : N = 1 := hlen.symm
  obtain ⟨b0, o0, hp0, a0⟩ := hA.get (i := 0) rfl
  subst hp0
  have m0 := all_may hc (v := v) (by simp)
  have i0 := hi v (by simp)
  obtain ⟨ka, na, e⟩ := abs_form v i0
  have hv2 : absV v = ⟨k', n', t'.data.toList⟩ := hv
  rw [e] at hv2
  obtain ⟨rfl, rfl, rfl⟩ := v_inj hv2
  have e' : absV ⟨v.kind, v.int, (bs v.text).data.toList⟩ = ⟨ka, na, []⟩ := e
  exact rcall18_abs x hx hF c b0 o0 1 cap [v] w hA hN hHas hc hz v.kind v.int (bs v.text) (by simpa using a0) (by decide) ka na ⟨#[]⟩ (fun W hb => rabs18_is v.kind v.int (bs v.text) W (hL.below hb) i0 ka na (Lib.hid e'))
theorem rd_coalesce (x : ByteArray) (hx : x.size ≤ 1048576) (hF : Hid (bs (x.data.toList.map Txt.lower) = ⟨#[99, 111, 97, 108, 101, 115, 99, 101]⟩)) (c : Int) (p : Option Addr) (N cap : Nat) (vs : List Val.V) (w : World) (hL : Lits w) (hA : ValsAt w p N vs) (hN : N ≤ 1048576) (hc : vs.all Val.may = true) (hi : ∀ v ∈ vs, Val.inr v.int) (hfit : fitsB 1 (N : Int) = true) (k' n' : Int) (t' : ByteArray) (hv : fnV 1 c vs = ⟨k', n', t'.data.toList⟩) :
    Calls Tryz.prog 11 #[.string x, .int .i64 c, .slice p N cap] w (VRet2 k' n' t' 0 w) := by
  have hHas : HasP ⟨#[99, 111, 97, 108, 101, 115, 99, 101]⟩ N true := fun W => rhas18_coalesce (N : Int) W true (Lib.hid hfit)
  have hlen := hA.1
  have q1 : (2 : Int) ≤ (N : Int) := (fitsB_num hfit).1
  have q2 : (-1 : Int) < 0 ∨ (N : Int) ≤ -1 := (fitsB_num hfit).2
  exact rcall18_choose x ⟨#[99, 111, 97, 108, 101, 115, 99, 101]⟩ hx hF c p N cap vs w hA hN hHas hc (fun W => rnulls18_coalesce W) k' n' t' (fun W hb => rch_coalesce c p N cap vs W (hA.below hb) hN k' n' t' (Lib.hid hv))
theorem rd_hex (x : ByteArray) (hx : x.size ≤ 1048576) (hF : Hid (bs (x.data.toList.map Txt.lower) = ⟨#[104, 101, 120]⟩)) (c : Int) (p : Option Addr) (N cap : Nat) (vs : List Val.V) (w : World) (hL : Lits w) (hA : ValsAt w p N vs) (hN : N ≤ 1048576) (hc : vs.all Val.may = true) (hi : ∀ v ∈ vs, Val.inr v.int) (hz : ∀ v ∈ vs, v.kind ≠ 0) (hfit : fitsB 2 (N : Int) = true) (k' n' : Int) (t' : ByteArray) (hv : fnV 2 c vs = ⟨k', n', t'.data.toList⟩) :
    Calls Tryz.prog 11 #[.string x, .int .i64 c, .slice p N cap] w (VRet2 k' n' t' 0 w) := by
  have hHas : HasP ⟨#[104, 101, 120]⟩ N true := fun W => rhas18_hex (N : Int) W true (Lib.hid hfit)
  have hlen := hA.1
  have q1 : (1 : Int) ≤ (N : Int) := (fitsB_num hfit).1
  have q2 : (1 : Int) < 0 ∨ (N : Int) ≤ 1 := (fitsB_num hfit).2
  obtain ⟨v, rfl⟩ := len1 (show vs.length = 1 by omega)
  obtain rfl : N = 1 := hlen.symm
  obtain ⟨b0, o0, hp0, a0⟩ := hA.get (i := 0) rfl
  subst hp0
  have m0 := all_may hc (v := v) (by simp)
  have i0 := hi v (by simp)
  have z0 := hz v (by simp)
  obtain ⟨s0, hs0, hsz0, es0⟩ := shown_v m0 z0 i0
  have hv2 : Val.ptext (hexU (shown v)) = ⟨k', n', t'.data.toList⟩ := hv
  obtain rfl := ptext_zero hv2
  rw [es0] at hv2
  exact rcall18_hex x hx hF c b0 o0 1 cap [v] w hA hN hHas hc hz k' 0 t' (fun W hb => rtx_hex b0 o0 cap v.kind v.int (bs v.text) W (hL.below hb) (a0.on hb) i0 s0 hsz0 (Lib.hid hs0) _ (Lib.hid rfl) k' t' (Lib.hid hv2))
theorem rd_ifnull (x : ByteArray) (hx : x.size ≤ 1048576) (hF : Hid (bs (x.data.toList.map Txt.lower) = ⟨#[105, 102, 110, 117, 108, 108]⟩)) (c : Int) (p : Option Addr) (N cap : Nat) (vs : List Val.V) (w : World) (hL : Lits w) (hA : ValsAt w p N vs) (hN : N ≤ 1048576) (hc : vs.all Val.may = true) (hi : ∀ v ∈ vs, Val.inr v.int) (hfit : fitsB 3 (N : Int) = true) (k' n' : Int) (t' : ByteArray) (hv : fnV 3 c vs = ⟨k', n', t'.data.toList⟩) :
    Calls Tryz.prog 11 #[.string x, .int .i64 c, .slice p N cap] w (VRet2 k' n' t' 0 w) := by
  have hHas : HasP ⟨#[105, 102, 110, 117, 108, 108]⟩ N true := fun W => rhas18_ifnull (N : Int) W true (Lib.hid hfit)
  have hlen := hA.1
  have q1 : (2 : Int) ≤ (N : Int) := (fitsB_num hfit).1
  have q2 : (2 : Int) < 0 ∨ (N : Int) ≤ 2 := (fitsB_num hfit).2
  exact rcall18_choose x ⟨#[105, 102, 110, 117, 108, 108]⟩ hx hF c p N cap vs w hA hN hHas hc (fun W => rnulls18_ifnull W) k' n' t' (fun W hb => rch_ifnull c p N cap vs W (hA.below hb) hN k' n' t' (Lib.hid hv))
theorem rd_iif (x : ByteArray) (hx : x.size ≤ 1048576) (hF : Hid (bs (x.data.toList.map Txt.lower) = ⟨#[105, 105, 102]⟩)) (c : Int) (p : Option Addr) (N cap : Nat) (vs : List Val.V) (w : World) (hL : Lits w) (hA : ValsAt w p N vs) (hN : N ≤ 1048576) (hc : vs.all Val.may = true) (hi : ∀ v ∈ vs, Val.inr v.int) (hfit : fitsB 4 (N : Int) = true) (k' n' : Int) (t' : ByteArray) (hv : fnV 4 c vs = ⟨k', n', t'.data.toList⟩) :
    Calls Tryz.prog 11 #[.string x, .int .i64 c, .slice p N cap] w (VRet2 k' n' t' 0 w) := by
  have hHas : HasP ⟨#[105, 105, 102]⟩ N true := fun W => rhas18_iif (N : Int) W true (Lib.hid hfit)
  have hlen := hA.1
  have q1 : (3 : Int) ≤ (N : Int) := (fitsB_num hfit).1
  have q2 : (3 : Int) < 0 ∨ (N : Int) ≤ 3 := (fitsB_num hfit).2
  obtain ⟨v, v1, v2, rfl⟩ := len3 (show vs.length = 3 by omega)
  obtain rfl : N = 3 := hlen.symm
  obtain ⟨b0, o0, hp0, a0⟩ := hA.get (i := 0) rfl
  obtain ⟨b1, o1, hp1, a1⟩ := hA.get (i := 1) rfl
  obtain ⟨b2, o2, hp2, a2⟩ := hA.get (i := 2) rfl
  subst hp0
  cases hp1
  cases hp2
  have m0 := all_may hc (v := v) (by simp)
  have i0 := hi v (by simp)
  have m1 := all_may hc (v := v1) (by simp)
  have i1 := hi v1 (by simp)
  have m2 := all_may hc (v := v2) (by simp)
  have i2 := hi v2 (by simp)
  have hv2 : (if Val.tru v = 1 then v1 else v2) = ⟨k', n', t'.data.toList⟩ := hv
  by_cases ht : Val.tru v = 1
  · rw [if_pos ht] at hv2
    subst hv2
    exact rcall18_choose x ⟨#[105, 105, 102]⟩ hx hF c (some ⟨b0, o0, none⟩) 3 cap _ w hA hN hHas hc (fun W => rnulls18_iif W) k' n' t' (fun W hb => rch_iif_yes b0 o0 cap v.kind v.int (bs v.text) k' n' t' v2.kind v2.int (bs v2.text) W (hL.below hb) (a0.on hb) (a1.on hb) (a2.on hb) i0 i1 i2 c (Lib.hid ht))
  · rw [if_neg ht] at hv2
    subst hv2
    exact rcall18_choose x ⟨#[105, 105, 102]⟩ hx hF c (some ⟨b0, o0, none⟩) 3 cap _ w hA hN hHas hc (fun W => rnulls18_iif W) k' n' t' (fun W hb => rch_iif_no b0 o0 cap v.kind v.int (bs v.text) v1.kind v1.int (bs v1.text) k' n' t' W (hL.below hb) (a0.on hb) (a1.on hb) (a2.on hb) i0 i1 i2 c _ (Lib.hid rfl) ht)
theorem rd_instr (x : ByteArray) (hx : x.size ≤ 1048576) (hF : Hid (bs (x.data.toList.map Txt.lower) = ⟨#[105, 110, 115, 116, 114]⟩)) (c : Int) (p : Option Addr) (N cap : Nat) (vs : List Val.V) (w : World) (hL : Lits w) (hA : ValsAt w p N vs) (hN : N ≤ 1048576) (hc : vs.all Val.may = true) (hi : ∀ v ∈ vs, Val.inr v.int) (hz : ∀ v ∈ vs, v.kind ≠ 0) (hfit : fitsB 5 (N : Int) = true) (k' n' : Int) (t' : ByteArray) (hv : fnV 5 c vs = ⟨k', n', t'.data.toList⟩) :
    Calls Tryz.prog 11 #[.string x, .int .i64 c, .slice p N cap] w (VRet2 k' n' t' 0 w) := by
  have hHas : HasP ⟨#[105, 110, 115, 116, 114]⟩ N true := fun W => rhas18_instr (N : Int) W true (Lib.hid hfit)
  have hlen := hA.1
  have q1 : (2 : Int) ≤ (N : Int) := (fitsB_num hfit).1
  have q2 : (2 : Int) < 0 ∨ (N : Int) ≤ 2 := (fitsB_num hfit).2
  obtain ⟨v, v1, rfl⟩ := len2 (show vs.length = 2 by omega)
  obtain rfl : N = 2 := hlen.symm
  obtain ⟨b0, o0, hp0, a0⟩ := hA.get (i := 0) rfl
  obtain ⟨b1, o1, hp1, a1⟩ := hA.get (i := 1) rfl
  subst hp0
  cases hp1
  have m0 := all_may hc (v := v) (by simp)
  have i0 := hi v (by simp)
  have z0 := hz v (by simp)
  obtain ⟨s0, hs0, hsz0, es0⟩ := shown_v m0 z0 i0
  have m1 := all_may hc (v := v1) (by simp)
  have i1 := hi v1 (by simp)
  have z1 := hz v1 (by simp)
  obtain ⟨s1, hs1, hsz1, es1⟩ := shown_v m1 z1 i1
  have hv2 : (⟨1, Lib.index (shown v) (shown v1) + 1, []⟩ : Val.V) = ⟨k', n', t'.data.toList⟩ := hv
  rw [es0, es1] at hv2
  obtain ⟨rfl, rfl, rfl⟩ := v_inj hv2
  have hr1 : Lib.index s0.data.toList s1.data.toList ≤ 400 := by
    rcases index_cases s0.data.toList s1.data.toList with ⟨h, _⟩ | ⟨i, hle, h, _⟩
    · rw [h]; decide
    · rw [h]; have : s0.data.toList.length = s0.size := rfl; omega
  exact rcall18_instr x hx hF c b0 o0 2 cap [v, v1] w hA hN hHas hc hz 1 _ ⟨#[]⟩ (fun W hb => rtx_instr b0 o0 cap v.kind v.int (bs v.text) v1.kind v1.int (bs v1.text) W (hL.below hb) (a0.on hb) (a1.on hb) i0 i1 s0 hsz0 (Lib.hid hs0) s1 hsz1 (Lib.hid hs1) _ (Lib.hid rfl) (Lib.index_ge _ _) hr1)
theorem rd_length (x : ByteArray) (hx : x.size ≤ 1048576) (hF : Hid (bs (x.data.toList.map Txt.lower) = ⟨#[108, 101, 110, 103, 116, 104]⟩)) (c : Int) (p : Option Addr) (N cap : Nat) (vs : List Val.V) (w : World) (hL : Lits w) (hA : ValsAt w p N vs) (hN : N ≤ 1048576) (hc : vs.all Val.may = true) (hi : ∀ v ∈ vs, Val.inr v.int) (hz : ∀ v ∈ vs, v.kind ≠ 0) (hfit : fitsB 6 (N : Int) = true) (k' n' : Int) (t' : ByteArray) (hv : fnV 6 c vs = ⟨k', n', t'.data.toList⟩) :
    Calls Tryz.prog 11 #[.string x, .int .i64 c, .slice p N cap] w (VRet2 k' n' t' 0 w) := by
  have hHas : HasP ⟨#[108, 101, 110, 103, 116, 104]⟩ N true := fun W => rhas18_length (N : Int) W true (Lib.hid hfit)
  have hlen := hA.1
  have q1 : (1 : Int) ≤ (N : Int) := (fitsB_num hfit).1
  have q2 : (1 : Int) < 0 ∨ (N : Int) ≤ 1 := (fitsB_num hfit).2
  obtain ⟨v, rfl⟩ := len1 (show vs.length = 1 by omega)
  obtain rfl : N = 1 := hlen.symm
  obtain ⟨b0, o0, hp0, a0⟩ := hA.get (i := 0) rfl
  subst hp0
  have m0 := all_may hc (v := v) (by simp)
  have i0 := hi v (by simp)
  have z0 := hz v (by simp)
  obtain ⟨s0, hs0, hsz0, es0⟩ := shown_v m0 z0 i0
  have hv2 : (⟨1, ((shown v).length : Int), []⟩ : Val.V) = ⟨k', n', t'.data.toList⟩ := hv
  rw [es0] at hv2
  obtain ⟨rfl, rfl, rfl⟩ := v_inj hv2
  exact rcall18_length x hx hF c b0 o0 1 cap [v] w hA hN hHas hc hz 1 _ ⟨#[]⟩ (fun W hb => rtx_length b0 o0 cap v.kind v.int (bs v.text) W (hL.below hb) (a0.on hb) i0 s0 hsz0 (Lib.hid hs0))
theorem rd_lower (x : ByteArray) (hx : x.size ≤ 1048576) (hF : Hid (bs (x.data.toList.map Txt.lower) = ⟨#[108, 111, 119, 101, 114]⟩)) (c : Int) (p : Option Addr) (N cap : Nat) (vs : List Val.V) (w : World) (hL : Lits w) (hA : ValsAt w p N vs) (hN : N ≤ 1048576) (hc : vs.all Val.may = true) (hi : ∀ v ∈ vs, Val.inr v.int) (hz : ∀ v ∈ vs, v.kind ≠ 0) (hfit : fitsB 7 (N : Int) = true) (k' n' : Int) (t' : ByteArray) (hv : fnV 7 c vs = ⟨k', n', t'.data.toList⟩) :
    Calls Tryz.prog 11 #[.string x, .int .i64 c, .slice p N cap] w (VRet2 k' n' t' 0 w) := by
  have hHas : HasP ⟨#[108, 111, 119, 101, 114]⟩ N true := fun W => rhas18_lower (N : Int) W true (Lib.hid hfit)
  have hlen := hA.1
  have q1 : (1 : Int) ≤ (N : Int) := (fitsB_num hfit).1
  have q2 : (1 : Int) < 0 ∨ (N : Int) ≤ 1 := (fitsB_num hfit).2
  obtain ⟨v, rfl⟩ := len1 (show vs.length = 1 by omega)
  obtain rfl : N = 1 := hlen.symm
  obtain ⟨b0, o0, hp0, a0⟩ := hA.get (i := 0) rfl
  subst hp0
  have m0 := all_may hc (v := v) (by simp)
  have i0 := hi v (by simp)
  have z0 := hz v (by simp)
  obtain ⟨s0, hs0, hsz0, es0⟩ := shown_v m0 z0 i0
  have hv2 : (⟨2, 0, (shown v).map Txt.lower⟩ : Val.V) = ⟨k', n', t'.data.toList⟩ := hv
  rw [es0] at hv2
  have hl : ((s0.data.toList).map Txt.lower).length ≤ 400 := by rw [List.length_map]; exact hsz0
  obtain ⟨rfl, rfl, e⟩ := v_inj hv2
  subst e
  exact rcall18_lower x hx hF c b0 o0 1 cap [v] w hA hN hHas hc hz 2 0 (bs (s0.data.toList.map Txt.lower)) (fun W hb => rtx_lower b0 o0 cap v.kind v.int (bs v.text) W (hL.below hb) (a0.on hb) i0 s0 hsz0 (Lib.hid hs0) _ (Lib.hid rfl) 2 _ (Lib.hid (ptext_small hl)))
theorem rd_ltrim (x : ByteArray) (hx : x.size ≤ 1048576) (hF : Hid (bs (x.data.toList.map Txt.lower) = ⟨#[108, 116, 114, 105, 109]⟩)) (c : Int) (p : Option Addr) (N cap : Nat) (vs : List Val.V) (w : World) (hL : Lits w) (hA : ValsAt w p N vs) (hN : N ≤ 1048576) (hc : vs.all Val.may = true) (hi : ∀ v ∈ vs, Val.inr v.int) (hz : ∀ v ∈ vs, v.kind ≠ 0) (hfit : fitsB 8 (N : Int) = true) (k' n' : Int) (t' : ByteArray) (hv : fnV 8 c vs = ⟨k', n', t'.data.toList⟩) :
    Calls Tryz.prog 11 #[.string x, .int .i64 c, .slice p N cap] w (VRet2 k' n' t' 0 w) := by
  have hHas : HasP ⟨#[108, 116, 114, 105, 109]⟩ N true := fun W => rhas18_ltrim (N : Int) W true (Lib.hid hfit)
  have hlen := hA.1
  have q1 : (1 : Int) ≤ (N : Int) := (fitsB_num hfit).1
  have q2 : (2 : Int) < 0 ∨ (N : Int) ≤ 2 := (fitsB_num hfit).2
  have hcases : vs.length = 1 ∨ vs.length = 2 := by omega
  rcases hcases with hl1 | hl2
  · obtain ⟨v, rfl⟩ := len1 hl1
    obtain rfl : N = 1 := hlen.symm
    obtain ⟨b0, o0, hp0, a0⟩ := hA.get (i := 0) rfl
    subst hp0
    have m0 := all_may hc (v := v) (by simp)
    have i0 := hi v (by simp)
    have z0 := hz v (by simp)
    obtain ⟨s0, hs0, hsz0, es0⟩ := shown_v m0 z0 i0
    have hv2 : (⟨2, 0, trimT [32] true false (shown v)⟩ : Val.V) = ⟨k', n', t'.data.toList⟩ := hv
    rw [es0] at hv2
    obtain ⟨rfl, rfl, e⟩ := v_inj hv2
    subst e
    have hl : (bs (trimT [32] true false s0.data.toList)).size ≤ 400 := by rw [bs_size]; exact Nat.le_trans (trim_len _ _ _ _) hsz0
    exact rcall18_ltrim x hx hF c b0 o0 1 cap [v] w hA hN hHas hc hz 2 0 _ (fun W hb => rtx_ltrim1 b0 o0 cap v.kind v.int (bs v.text) W (hL.below hb) (a0.on hb) i0 s0 hsz0 (Lib.hid hs0) _ (Lib.hid rfl) hl)
  · obtain ⟨v, v1, rfl⟩ := len2 hl2
    obtain rfl : N = 2 := hlen.symm
    obtain ⟨b0, o0, hp0, a0⟩ := hA.get (i := 0) rfl
    obtain ⟨b1, o1, hp1, a1⟩ := hA.get (i := 1) rfl
    subst hp0
    cases hp1
    have m0 := all_may hc (v := v) (by simp)
    have i0 := hi v (by simp)
    have z0 := hz v (by simp)
    obtain ⟨s0, hs0, hsz0, es0⟩ := shown_v m0 z0 i0
    have m1 := all_may hc (v := v1) (by simp)
    have i1 := hi v1 (by simp)
    have z1 := hz v1 (by simp)
    obtain ⟨s1, hs1, hsz1, es1⟩ := shown_v m1 z1 i1
    have hv2 : (⟨2, 0, trimT (shown v1) true false (shown v)⟩ : Val.V) = ⟨k', n', t'.data.toList⟩ := hv
    rw [es0, es1] at hv2
    obtain ⟨rfl, rfl, e⟩ := v_inj hv2
    subst e
    have hl : (bs (trimT s1.data.toList true false s0.data.toList)).size ≤ 400 := by rw [bs_size]; exact Nat.le_trans (trim_len _ _ _ _) hsz0
    exact rcall18_ltrim x hx hF c b0 o0 2 cap [v, v1] w hA hN hHas hc hz 2 0 _ (fun W hb => rtx_ltrim2 b0 o0 cap v.kind v.int (bs v.text) v1.kind v1.int (bs v1.text) W (hL.below hb) (a0.on hb) (a1.on hb) i0 i1 s0 hsz0 (Lib.hid hs0) s1 hsz1 (Lib.hid hs1) _ (Lib.hid rfl) hl)
theorem rd_max (x : ByteArray) (hx : x.size ≤ 1048576) (hF : Hid (bs (x.data.toList.map Txt.lower) = ⟨#[109, 97, 120]⟩)) (c : Int) (p : Option Addr) (N cap : Nat) (vs : List Val.V) (w : World) (hL : Lits w) (hA : ValsAt w p N vs) (hN : N ≤ 1048576) (hc : vs.all Val.may = true) (hi : ∀ v ∈ vs, Val.inr v.int) (hz : ∀ v ∈ vs, v.kind ≠ 0) (hfit : fitsB 9 (N : Int) = true) (k' n' : Int) (t' : ByteArray) (hv : fnV 9 c vs = ⟨k', n', t'.data.toList⟩) :
    Calls Tryz.prog 11 #[.string x, .int .i64 c, .slice p N cap] w (VRet2 k' n' t' 0 w) := by
  have hHas : HasP ⟨#[109, 97, 120]⟩ N true := fun W => rhas18_max (N : Int) W true (Lib.hid hfit)
  have hlen := hA.1
  have q1 : (2 : Int) ≤ (N : Int) := (fitsB_num hfit).1
  have q2 : (-1 : Int) < 0 ∨ (N : Int) ≤ -1 := (fitsB_num hfit).2
  match vs, hlen, hA, hc, hi, hz, hv with
  | [], hlen, _, _, _, _, _ => exact absurd (show (0 : Nat) = N from hlen) (by omega)
  | v :: l, hlen, hA, hc, hi, hz, hv =>
    have hv2 : bestV 1 c v l = ⟨k', n', t'.data.toList⟩ := hv
    obtain ⟨b0, o0, hp0, a0⟩ := hA.get (i := 0) rfl
    subst hp0
    have hsm : ∀ y ∈ l, smallV y := fun y hy => may_small (all_may hc (List.mem_cons_of_mem _ hy))
    have h0s : (bs v.text).size ≤ 1048576 := by rw [bs_size]; exact may_small (all_may hc List.mem_cons_self)
    exact rcall18_max x hx hF c b0 o0 N cap (v :: l) w hA hN hHas hc hz k' n' t' (fun W hb => rbest18_is 1 c b0 o0 N cap l v.kind v.int (bs v.text) W (hA.below hb) hN h0s hsm k' n' t' (Lib.hid hv2))
theorem rd_min (x : ByteArray) (hx : x.size ≤ 1048576) (hF : Hid (bs (x.data.toList.map Txt.lower) = ⟨#[109, 105, 110]⟩)) (c : Int) (p : Option Addr) (N cap : Nat) (vs : List Val.V) (w : World) (hL : Lits w) (hA : ValsAt w p N vs) (hN : N ≤ 1048576) (hc : vs.all Val.may = true) (hi : ∀ v ∈ vs, Val.inr v.int) (hz : ∀ v ∈ vs, v.kind ≠ 0) (hfit : fitsB 10 (N : Int) = true) (k' n' : Int) (t' : ByteArray) (hv : fnV 10 c vs = ⟨k', n', t'.data.toList⟩) :
    Calls Tryz.prog 11 #[.string x, .int .i64 c, .slice p N cap] w (VRet2 k' n' t' 0 w) := by
  have hHas : HasP ⟨#[109, 105, 110]⟩ N true := fun W => rhas18_min (N : Int) W true (Lib.hid hfit)
  have hlen := hA.1
  have q1 : (2 : Int) ≤ (N : Int) := (fitsB_num hfit).1
  have q2 : (-1 : Int) < 0 ∨ (N : Int) ≤ -1 := (fitsB_num hfit).2
  match vs, hlen, hA, hc, hi, hz, hv with
  | [], hlen, _, _, _, _, _ => exact absurd (show (0 : Nat) = N from hlen) (by omega)
  | v :: l, hlen, hA, hc, hi, hz, hv =>
    have hv2 : bestV (-1) c v l = ⟨k', n', t'.data.toList⟩ := hv
    obtain ⟨b0, o0, hp0, a0⟩ := hA.get (i := 0) rfl
    subst hp0
    have hsm : ∀ y ∈ l, smallV y := fun y hy => may_small (all_may hc (List.mem_cons_of_mem _ hy))
    have h0s : (bs v.text).size ≤ 1048576 := by rw [bs_size]; exact may_small (all_may hc List.mem_cons_self)
    exact rcall18_min x hx hF c b0 o0 N cap (v :: l) w hA hN hHas hc hz k' n' t' (fun W hb => rbest18_is (-1) c b0 o0 N cap l v.kind v.int (bs v.text) W (hA.below hb) hN h0s hsm k' n' t' (Lib.hid hv2))
theorem rd_nullif (x : ByteArray) (hx : x.size ≤ 1048576) (hF : Hid (bs (x.data.toList.map Txt.lower) = ⟨#[110, 117, 108, 108, 105, 102]⟩)) (c : Int) (p : Option Addr) (N cap : Nat) (vs : List Val.V) (w : World) (hL : Lits w) (hA : ValsAt w p N vs) (hN : N ≤ 1048576) (hc : vs.all Val.may = true) (hi : ∀ v ∈ vs, Val.inr v.int) (hfit : fitsB 11 (N : Int) = true) (k' n' : Int) (t' : ByteArray) (hv : fnV 11 c vs = ⟨k', n', t'.data.toList⟩) :
    Calls Tryz.prog 11 #[.string x, .int .i64 c, .slice p N cap] w (VRet2 k' n' t' 0 w) := by
  have hHas : HasP ⟨#[110, 117, 108, 108, 105, 102]⟩ N true := fun W => rhas18_nullif (N : Int) W true (Lib.hid hfit)
  have hlen := hA.1
  have q1 : (2 : Int) ≤ (N : Int) := (fitsB_num hfit).1
  have q2 : (2 : Int) < 0 ∨ (N : Int) ≤ 2 := (fitsB_num hfit).2
  obtain ⟨v, v1, rfl⟩ := len2 (show vs.length = 2 by omega)
  obtain rfl : N = 2 := hlen.symm
  obtain ⟨b0, o0, hp0, a0⟩ := hA.get (i := 0) rfl
  obtain ⟨b1, o1, hp1, a1⟩ := hA.get (i := 1) rfl
  subst hp0
  cases hp1
  have m0 := all_may hc (v := v) (by simp)
  have i0 := hi v (by simp)
  have m1 := all_may hc (v := v1) (by simp)
  have i1 := hi v1 (by simp)
  have hv2 : (if v1.kind ≠ 0 ∧ Val.cmp v v1 c = 0 then Val.zero else v) = ⟨k', n', t'.data.toList⟩ := hv
  by_cases h0 : v.kind = 0 ∨ v1.kind = 0
  · have he : eqV v v1 c = ⟨0, 0, []⟩ := by unfold eqV; rw [if_pos h0]; rfl
    have hvv : v = ⟨k', n', t'.data.toList⟩ := by
      by_cases hq : v1.kind ≠ 0 ∧ Val.cmp v v1 c = 0
      · rw [if_pos hq] at hv2
        have hk : v.kind = 0 := h0.resolve_right hq.1
        rw [← hv2]
        exact (may_zero m0 hk).symm
      · rw [if_neg hq] at hv2; exact hv2
    subst hvv
    exact rcall18_choose x ⟨#[110, 117, 108, 108, 105, 102]⟩ hx hF c (some ⟨b0, o0, none⟩) 2 cap _ w hA hN hHas hc (fun W => rnulls18_nullif W) k' n' t' (fun W hb => rch_nullif_null b0 o0 cap k' n' t' v1.kind v1.int (bs v1.text) W (hL.below hb) (a0.on hb) (a1.on hb) i0 i1 c m0 m1 (Lib.hid he))
  · by_cases hq : Val.cmp v v1 c = 0
    · have he : eqV v v1 c = ⟨1, 1, []⟩ := by unfold eqV; rw [if_neg h0, if_pos hq]
      rw [if_pos ⟨fun h => h0 (.inr h), hq⟩] at hv2
      obtain ⟨rfl, rfl, rfl⟩ := v_inj hv2
      exact rcall18_choose x ⟨#[110, 117, 108, 108, 105, 102]⟩ hx hF c (some ⟨b0, o0, none⟩) 2 cap _ w hA hN hHas hc (fun W => rnulls18_nullif W) 0 0 ⟨#[]⟩ (fun W hb => rch_nullif_yes b0 o0 cap v.kind v.int (bs v.text) v1.kind v1.int (bs v1.text) W (hL.below hb) (a0.on hb) (a1.on hb) i0 i1 c m0 m1 (Lib.hid he))
    · have he : eqV v v1 c = ⟨1, 0, []⟩ := by unfold eqV; rw [if_neg h0, if_neg hq]
      rw [if_neg (fun h => hq h.2)] at hv2
      subst hv2
      exact rcall18_choose x ⟨#[110, 117, 108, 108, 105, 102]⟩ hx hF c (some ⟨b0, o0, none⟩) 2 cap _ w hA hN hHas hc (fun W => rnulls18_nullif W) k' n' t' (fun W hb => rch_nullif_no b0 o0 cap k' n' t' v1.kind v1.int (bs v1.text) W (hL.below hb) (a0.on hb) (a1.on hb) i0 i1 c m0 m1 (Lib.hid he))
theorem rd_quote (x : ByteArray) (hx : x.size ≤ 1048576) (hF : Hid (bs (x.data.toList.map Txt.lower) = ⟨#[113, 117, 111, 116, 101]⟩)) (c : Int) (p : Option Addr) (N cap : Nat) (vs : List Val.V) (w : World) (hL : Lits w) (hA : ValsAt w p N vs) (hN : N ≤ 1048576) (hc : vs.all Val.may = true) (hi : ∀ v ∈ vs, Val.inr v.int) (hfit : fitsB 12 (N : Int) = true) (k' n' : Int) (t' : ByteArray) (hv : fnV 12 c vs = ⟨k', n', t'.data.toList⟩) :
    Calls Tryz.prog 11 #[.string x, .int .i64 c, .slice p N cap] w (VRet2 k' n' t' 0 w) := by
  have hHas : HasP ⟨#[113, 117, 111, 116, 101]⟩ N true := fun W => rhas18_quote (N : Int) W true (Lib.hid hfit)
  have hlen := hA.1
  have q1 : (1 : Int) ≤ (N : Int) := (fitsB_num hfit).1
  have q2 : (1 : Int) < 0 ∨ (N : Int) ≤ 1 := (fitsB_num hfit).2
  obtain ⟨v, rfl⟩ := len1 (show vs.length = 1 by omega)
  obtain rfl : N = 1 := hlen.symm
  obtain ⟨b0, o0, hp0, a0⟩ := hA.get (i := 0) rfl
  subst hp0
  have m0 := all_may hc (v := v) (by simp)
  have i0 := hi v (by simp)
  have hv2 : Val.ptext (Val.print v).1 = ⟨k', n', t'.data.toList⟩ := hv
  obtain rfl := ptext_zero hv2
  exact rcall18_choose x ⟨#[113, 117, 111, 116, 101]⟩ hx hF c (some ⟨b0, o0, none⟩) 1 cap _ w hA hN hHas hc (fun W => rnulls18_quote W) k' 0 t' (fun W hb => rch_quote b0 o0 cap v.kind v.int (bs v.text) W (hL.below hb) (a0.on hb) i0 c _ _ (Lib.hid rfl) k' t' (Lib.hid hv2))
theorem rd_replace (x : ByteArray) (hx : x.size ≤ 1048576) (hF : Hid (bs (x.data.toList.map Txt.lower) = ⟨#[114, 101, 112, 108, 97, 99, 101]⟩)) (c : Int) (p : Option Addr) (N cap : Nat) (vs : List Val.V) (w : World) (hL : Lits w) (hA : ValsAt w p N vs) (hN : N ≤ 1048576) (hc : vs.all Val.may = true) (hi : ∀ v ∈ vs, Val.inr v.int) (hz : ∀ v ∈ vs, v.kind ≠ 0) (hfit : fitsB 13 (N : Int) = true) (k' n' : Int) (t' : ByteArray) (hv : fnV 13 c vs = ⟨k', n', t'.data.toList⟩) :
    Calls Tryz.prog 11 #[.string x, .int .i64 c, .slice p N cap] w (VRet2 k' n' t' 0 w) := by
  have hHas : HasP ⟨#[114, 101, 112, 108, 97, 99, 101]⟩ N true := fun W => rhas18_replace (N : Int) W true (Lib.hid hfit)
  have hlen := hA.1
  have q1 : (3 : Int) ≤ (N : Int) := (fitsB_num hfit).1
  have q2 : (3 : Int) < 0 ∨ (N : Int) ≤ 3 := (fitsB_num hfit).2
  obtain ⟨v, v1, v2, rfl⟩ := len3 (show vs.length = 3 by omega)
  obtain rfl : N = 3 := hlen.symm
  obtain ⟨b0, o0, hp0, a0⟩ := hA.get (i := 0) rfl
  obtain ⟨b1, o1, hp1, a1⟩ := hA.get (i := 1) rfl
  obtain ⟨b2, o2, hp2, a2⟩ := hA.get (i := 2) rfl
  subst hp0
  cases hp1
  cases hp2
  have m0 := all_may hc (v := v) (by simp)
  have i0 := hi v (by simp)
  have z0 := hz v (by simp)
  obtain ⟨s0, hs0, hsz0, es0⟩ := shown_v m0 z0 i0
  have m1 := all_may hc (v := v1) (by simp)
  have i1 := hi v1 (by simp)
  have z1 := hz v1 (by simp)
  obtain ⟨s1, hs1, hsz1, es1⟩ := shown_v m1 z1 i1
  have m2 := all_may hc (v := v2) (by simp)
  have i2 := hi v2 (by simp)
  have z2 := hz v2 (by simp)
  obtain ⟨s2, hs2, hsz2, es2⟩ := shown_v m2 z2 i2
  have hv2 : Val.ptext (repT (shown v) (shown v1) (shown v2)) = ⟨k', n', t'.data.toList⟩ := hv
  obtain rfl := ptext_zero hv2
  rw [es0, es1, es2] at hv2
  by_cases hy : s1.data.toList = []
  · have e1 : s1 = ⟨#[]⟩ := by rw [← bs_of s1, hy]; rfl
    have hv3 : Val.ptext s0.data.toList = ⟨k', 0, t'.data.toList⟩ := by unfold repT at hv2; rw [if_pos hy] at hv2; exact hv2
    exact rcall18_replace x hx hF c b0 o0 3 cap [v, v1, v2] w hA hN hHas hc hz k' 0 t' (fun W hb => rtx_replace_none b0 o0 cap v.kind v.int (bs v.text) v1.kind v1.int (bs v1.text) v2.kind v2.int (bs v2.text) W (hL.below hb) (a0.on hb) (a1.on hb) (a2.on hb) i0 i1 i2 s0 hsz0 (Lib.hid hs0) s1 hsz1 (Lib.hid hs1) s2 hsz2 (Lib.hid hs2) e1 k' t' (Lib.hid hv3))
  · rw [repT_all hy] at hv2
    exact rcall18_replace x hx hF c b0 o0 3 cap [v, v1, v2] w hA hN hHas hc hz k' 0 t' (fun W hb => rtx_replace_some b0 o0 cap v.kind v.int (bs v.text) v1.kind v1.int (bs v1.text) v2.kind v2.int (bs v2.text) W (hL.below hb) (a0.on hb) (a1.on hb) (a2.on hb) i0 i1 i2 s0 hsz0 (Lib.hid hs0) s1 hsz1 (Lib.hid hs1) s2 hsz2 (Lib.hid hs2) hy _ (Lib.hid rfl) k' t' (Lib.hid hv2))
theorem rd_rtrim (x : ByteArray) (hx : x.size ≤ 1048576) (hF : Hid (bs (x.data.toList.map Txt.lower) = ⟨#[114, 116, 114, 105, 109]⟩)) (c : Int) (p : Option Addr) (N cap : Nat) (vs : List Val.V) (w : World) (hL : Lits w) (hA : ValsAt w p N vs) (hN : N ≤ 1048576) (hc : vs.all Val.may = true) (hi : ∀ v ∈ vs, Val.inr v.int) (hz : ∀ v ∈ vs, v.kind ≠ 0) (hfit : fitsB 14 (N : Int) = true) (k' n' : Int) (t' : ByteArray) (hv : fnV 14 c vs = ⟨k', n', t'.data.toList⟩) :
    Calls Tryz.prog 11 #[.string x, .int .i64 c, .slice p N cap] w (VRet2 k' n' t' 0 w) := by
  have hHas : HasP ⟨#[114, 116, 114, 105, 109]⟩ N true := fun W => rhas18_rtrim (N : Int) W true (Lib.hid hfit)
  have hlen := hA.1
  have q1 : (1 : Int) ≤ (N : Int) := (fitsB_num hfit).1
  have q2 : (2 : Int) < 0 ∨ (N : Int) ≤ 2 := (fitsB_num hfit).2
  have hcases : vs.length = 1 ∨ vs.length = 2 := by omega
  rcases hcases with hl1 | hl2
  · obtain ⟨v, rfl⟩ := len1 hl1
    obtain rfl : N = 1 := hlen.symm
    obtain ⟨b0, o0, hp0, a0⟩ := hA.get (i := 0) rfl
    subst hp0
    have m0 := all_may hc (v := v) (by simp)
    have i0 := hi v (by simp)
    have z0 := hz v (by simp)
    obtain ⟨s0, hs0, hsz0, es0⟩ := shown_v m0 z0 i0
    have hv2 : (⟨2, 0, trimT [32] false true (shown v)⟩ : Val.V) = ⟨k', n', t'.data.toList⟩ := hv
    rw [es0] at hv2
    obtain ⟨rfl, rfl, e⟩ := v_inj hv2
    subst e
    have hl : (bs (trimT [32] false true s0.data.toList)).size ≤ 400 := by rw [bs_size]; exact Nat.le_trans (trim_len _ _ _ _) hsz0
    exact rcall18_rtrim x hx hF c b0 o0 1 cap [v] w hA hN hHas hc hz 2 0 _ (fun W hb => rtx_rtrim1 b0 o0 cap v.kind v.int (bs v.text) W (hL.below hb) (a0.on hb) i0 s0 hsz0 (Lib.hid hs0) _ (Lib.hid rfl) hl)
  · obtain ⟨v, v1, rfl⟩ := len2 hl2
    obtain rfl : N = 2 := hlen.symm
    obtain ⟨b0, o0, hp0, a0⟩ := hA.get (i := 0) rfl
    obtain ⟨b1, o1, hp1, a1⟩ := hA.get (i := 1) rfl
    subst hp0
    cases hp1
    have m0 := all_may hc (v := v) (by simp)
    have i0 := hi v (by simp)
    have z0 := hz v (by simp)
    obtain ⟨s0, hs0, hsz0, es0⟩ := shown_v m0 z0 i0
    have m1 := all_may hc (v := v1) (by simp)
    have i1 := hi v1 (by simp)
    have z1 := hz v1 (by simp)
    obtain ⟨s1, hs1, hsz1, es1⟩ := shown_v m1 z1 i1
    have hv2 : (⟨2, 0, trimT (shown v1) false true (shown v)⟩ : Val.V) = ⟨k', n', t'.data.toList⟩ := hv
    rw [es0, es1] at hv2
    obtain ⟨rfl, rfl, e⟩ := v_inj hv2
    subst e
    have hl : (bs (trimT s1.data.toList false true s0.data.toList)).size ≤ 400 := by rw [bs_size]; exact Nat.le_trans (trim_len _ _ _ _) hsz0
    exact rcall18_rtrim x hx hF c b0 o0 2 cap [v, v1] w hA hN hHas hc hz 2 0 _ (fun W hb => rtx_rtrim2 b0 o0 cap v.kind v.int (bs v.text) v1.kind v1.int (bs v1.text) W (hL.below hb) (a0.on hb) (a1.on hb) i0 i1 s0 hsz0 (Lib.hid hs0) s1 hsz1 (Lib.hid hs1) _ (Lib.hid rfl) hl)
theorem rd_sign (x : ByteArray) (hx : x.size ≤ 1048576) (hF : Hid (bs (x.data.toList.map Txt.lower) = ⟨#[115, 105, 103, 110]⟩)) (c : Int) (p : Option Addr) (N cap : Nat) (vs : List Val.V) (w : World) (hL : Lits w) (hA : ValsAt w p N vs) (hN : N ≤ 1048576) (hc : vs.all Val.may = true) (hi : ∀ v ∈ vs, Val.inr v.int) (hz : ∀ v ∈ vs, v.kind ≠ 0) (hfit : fitsB 15 (N : Int) = true) (k' n' : Int) (t' : ByteArray) (hv : fnV 15 c vs = ⟨k', n', t'.data.toList⟩) :
    Calls Tryz.prog 11 #[.string x, .int .i64 c, .slice p N cap] w (VRet2 k' n' t' 0 w) := by
  have hHas : HasP ⟨#[115, 105, 103, 110]⟩ N true := fun W => rhas18_sign (N : Int) W true (Lib.hid hfit)
  have hlen := hA.1
  have q1 : (1 : Int) ≤ (N : Int) := (fitsB_num hfit).1
  have q2 : (1 : Int) < 0 ∨ (N : Int) ≤ 1 := (fitsB_num hfit).2
  obtain ⟨v, rfl⟩ := len1 (show vs.length = 1 by omega)
  obtain rfl : N = 1 := hlen.symm
  obtain ⟨b0, o0, hp0, a0⟩ := hA.get (i := 0) rfl
  subst hp0
  have m0 := all_may hc (v := v) (by simp)
  have i0 := hi v (by simp)
  obtain ⟨ka, na, e⟩ := sign_form v i0
  have hv2 : signV v = ⟨k', n', t'.data.toList⟩ := hv
  rw [e] at hv2
  obtain ⟨rfl, rfl, rfl⟩ := v_inj hv2
  have e' : signV ⟨v.kind, v.int, (bs v.text).data.toList⟩ = ⟨ka, na, []⟩ := e
  exact rcall18_sign x hx hF c b0 o0 1 cap [v] w hA hN hHas hc hz v.kind v.int (bs v.text) (by simpa using a0) (by decide) ka na ⟨#[]⟩ (fun W hb => rsign18_is v.kind v.int (bs v.text) W (hL.below hb) i0 ka na (Lib.hid e'))
theorem rd_substr (x : ByteArray) (hx : x.size ≤ 1048576) (hF : Hid (bs (x.data.toList.map Txt.lower) = ⟨#[115, 117, 98, 115, 116, 114]⟩)) (c : Int) (p : Option Addr) (N cap : Nat) (vs : List Val.V) (w : World) (hL : Lits w) (hA : ValsAt w p N vs) (hN : N ≤ 1048576) (hc : vs.all Val.may = true) (hi : ∀ v ∈ vs, Val.inr v.int) (hz : ∀ v ∈ vs, v.kind ≠ 0) (hfit : fitsB 16 (N : Int) = true) (k' n' : Int) (t' : ByteArray) (hv : fnV 16 c vs = ⟨k', n', t'.data.toList⟩) :
    Calls Tryz.prog 11 #[.string x, .int .i64 c, .slice p N cap] w (VRet2 k' n' t' 0 w) := by
  have hHas : HasP ⟨#[115, 117, 98, 115, 116, 114]⟩ N true := fun W => rhas18_substr (N : Int) W true (Lib.hid hfit)
  have hlen := hA.1
  have q1 : (2 : Int) ≤ (N : Int) := (fitsB_num hfit).1
  have q2 : (3 : Int) < 0 ∨ (N : Int) ≤ 3 := (fitsB_num hfit).2
  have hcases : vs.length = 2 ∨ vs.length = 3 := by omega
  rcases hcases with hl2 | hl3
  · obtain ⟨v, v1, rfl⟩ := len2 hl2
    obtain rfl : N = 2 := hlen.symm
    obtain ⟨b0, o0, hp0, a0⟩ := hA.get (i := 0) rfl
    obtain ⟨b1, o1, hp1, a1⟩ := hA.get (i := 1) rfl
    subst hp0
    cases hp1
    have m0 := all_may hc (v := v) (by simp)
    have i0 := hi v (by simp)
    have m1 := all_may hc (v := v1) (by simp)
    have i1 := hi v1 (by simp)
    have z0 := hz v (by simp)
    have hv2 : substr2V v v1 = ⟨k', n', t'.data.toList⟩ := hv
    exact rcall18_substr x hx hF c b0 o0 2 cap [v, v1] w hA hN hHas hc hz k' n' t' (fun W hb => rsubstr18_two b0 o0 cap v v1 W (hL.below hb) (hA.below hb) m0 z0 i0 i1 k' n' t' (Lib.hid hv2))
  · obtain ⟨v, v1, v2, rfl⟩ := len3 hl3
    obtain rfl : N = 3 := hlen.symm
    obtain ⟨b0, o0, hp0, a0⟩ := hA.get (i := 0) rfl
    obtain ⟨b1, o1, hp1, a1⟩ := hA.get (i := 1) rfl
    obtain ⟨b2, o2, hp2, a2⟩ := hA.get (i := 2) rfl
    subst hp0
    cases hp1
    cases hp2
    have m0 := all_may hc (v := v) (by simp)
    have i0 := hi v (by simp)
    have m1 := all_may hc (v := v1) (by simp)
    have i1 := hi v1 (by simp)
    have m2 := all_may hc (v := v2) (by simp)
    have i2 := hi v2 (by simp)
    have z0 := hz v (by simp)
    have hv2 : substr3V v v1 v2 = ⟨k', n', t'.data.toList⟩ := hv
    exact rcall18_substr x hx hF c b0 o0 3 cap [v, v1, v2] w hA hN hHas hc hz k' n' t' (fun W hb => rsubstr18_three b0 o0 cap v v1 v2 W (hL.below hb) (hA.below hb) m0 z0 i0 i1 i2 k' n' t' (Lib.hid hv2))
theorem rd_trim (x : ByteArray) (hx : x.size ≤ 1048576) (hF : Hid (bs (x.data.toList.map Txt.lower) = ⟨#[116, 114, 105, 109]⟩)) (c : Int) (p : Option Addr) (N cap : Nat) (vs : List Val.V) (w : World) (hL : Lits w) (hA : ValsAt w p N vs) (hN : N ≤ 1048576) (hc : vs.all Val.may = true) (hi : ∀ v ∈ vs, Val.inr v.int) (hz : ∀ v ∈ vs, v.kind ≠ 0) (hfit : fitsB 17 (N : Int) = true) (k' n' : Int) (t' : ByteArray) (hv : fnV 17 c vs = ⟨k', n', t'.data.toList⟩) :
    Calls Tryz.prog 11 #[.string x, .int .i64 c, .slice p N cap] w (VRet2 k' n' t' 0 w) := by
  have hHas : HasP ⟨#[116, 114, 105, 109]⟩ N true := fun W => rhas18_trim (N : Int) W true (Lib.hid hfit)
  have hlen := hA.1
  have q1 : (1 : Int) ≤ (N : Int) := (fitsB_num hfit).1
  have q2 : (2 : Int) < 0 ∨ (N : Int) ≤ 2 := (fitsB_num hfit).2
  have hcases : vs.length = 1 ∨ vs.length = 2 := by omega
  rcases hcases with hl1 | hl2
  · obtain ⟨v, rfl⟩ := len1 hl1
    obtain rfl : N = 1 := hlen.symm
    obtain ⟨b0, o0, hp0, a0⟩ := hA.get (i := 0) rfl
    subst hp0
    have m0 := all_may hc (v := v) (by simp)
    have i0 := hi v (by simp)
    have z0 := hz v (by simp)
    obtain ⟨s0, hs0, hsz0, es0⟩ := shown_v m0 z0 i0
    have hv2 : (⟨2, 0, trimT [32] true true (shown v)⟩ : Val.V) = ⟨k', n', t'.data.toList⟩ := hv
    rw [es0] at hv2
    obtain ⟨rfl, rfl, e⟩ := v_inj hv2
    subst e
    have hl : (bs (trimT [32] true true s0.data.toList)).size ≤ 400 := by rw [bs_size]; exact Nat.le_trans (trim_len _ _ _ _) hsz0
    exact rcall18_trim x hx hF c b0 o0 1 cap [v] w hA hN hHas hc hz 2 0 _ (fun W hb => rtx_trim1 b0 o0 cap v.kind v.int (bs v.text) W (hL.below hb) (a0.on hb) i0 s0 hsz0 (Lib.hid hs0) _ (Lib.hid rfl) hl)
  · obtain ⟨v, v1, rfl⟩ := len2 hl2
    obtain rfl : N = 2 := hlen.symm
    obtain ⟨b0, o0, hp0, a0⟩ := hA.get (i := 0) rfl
    obtain ⟨b1, o1, hp1, a1⟩ := hA.get (i := 1) rfl
    subst hp0
    cases hp1
    have m0 := all_may hc (v := v) (by simp)
    have i0 := hi v (by simp)
    have z0 := hz v (by simp)
    obtain ⟨s0, hs0, hsz0, es0⟩ := shown_v m0 z0 i0
    have m1 := all_may hc (v := v1) (by simp)
    have i1 := hi v1 (by simp)
    have z1 := hz v1 (by simp)
    obtain ⟨s1, hs1, hsz1, es1⟩ := shown_v m1 z1 i1
    have hv2 : (⟨2, 0, trimT (shown v1) true true (shown v)⟩ : Val.V) = ⟨k', n', t'.data.toList⟩ := hv
    rw [es0, es1] at hv2
    obtain ⟨rfl, rfl, e⟩ := v_inj hv2
    subst e
    have hl : (bs (trimT s1.data.toList true true s0.data.toList)).size ≤ 400 := by rw [bs_size]; exact Nat.le_trans (trim_len _ _ _ _) hsz0
    exact rcall18_trim x hx hF c b0 o0 2 cap [v, v1] w hA hN hHas hc hz 2 0 _ (fun W hb => rtx_trim2 b0 o0 cap v.kind v.int (bs v.text) v1.kind v1.int (bs v1.text) W (hL.below hb) (a0.on hb) (a1.on hb) i0 i1 s0 hsz0 (Lib.hid hs0) s1 hsz1 (Lib.hid hs1) _ (Lib.hid rfl) hl)
theorem rd_typeof (x : ByteArray) (hx : x.size ≤ 1048576) (hF : Hid (bs (x.data.toList.map Txt.lower) = ⟨#[116, 121, 112, 101, 111, 102]⟩)) (c : Int) (p : Option Addr) (N cap : Nat) (vs : List Val.V) (w : World) (hL : Lits w) (hA : ValsAt w p N vs) (hN : N ≤ 1048576) (hc : vs.all Val.may = true) (hi : ∀ v ∈ vs, Val.inr v.int) (hfit : fitsB 18 (N : Int) = true) (k' n' : Int) (t' : ByteArray) (hv : fnV 18 c vs = ⟨k', n', t'.data.toList⟩) :
    Calls Tryz.prog 11 #[.string x, .int .i64 c, .slice p N cap] w (VRet2 k' n' t' 0 w) := by
  have hHas : HasP ⟨#[116, 121, 112, 101, 111, 102]⟩ N true := fun W => rhas18_typeof (N : Int) W true (Lib.hid hfit)
  have hlen := hA.1
  have q1 : (1 : Int) ≤ (N : Int) := (fitsB_num hfit).1
  have q2 : (1 : Int) < 0 ∨ (N : Int) ≤ 1 := (fitsB_num hfit).2
  obtain ⟨v, rfl⟩ := len1 (show vs.length = 1 by omega)
  obtain rfl : N = 1 := hlen.symm
  obtain ⟨b0, o0, hp0, a0⟩ := hA.get (i := 0) rfl
  subst hp0
  have m0 := all_may hc (v := v) (by simp)
  have i0 := hi v (by simp)
  have hv2 : (⟨2, 0, kindName v.kind⟩ : Val.V) = ⟨k', n', t'.data.toList⟩ := hv
  obtain ⟨rfl, rfl, e⟩ := v_inj hv2
  exact rcall18_choose x ⟨#[116, 121, 112, 101, 111, 102]⟩ hx hF c (some ⟨b0, o0, none⟩) 1 cap _ w hA hN hHas hc (fun W => rnulls18_typeof W) 2 0 t' (fun W hb => rch_typeof b0 o0 cap v.kind v.int (bs v.text) W (hL.below hb) (a0.on hb) i0 c (may_kind m0) _ (Lib.hid e))
theorem rd_upper (x : ByteArray) (hx : x.size ≤ 1048576) (hF : Hid (bs (x.data.toList.map Txt.lower) = ⟨#[117, 112, 112, 101, 114]⟩)) (c : Int) (p : Option Addr) (N cap : Nat) (vs : List Val.V) (w : World) (hL : Lits w) (hA : ValsAt w p N vs) (hN : N ≤ 1048576) (hc : vs.all Val.may = true) (hi : ∀ v ∈ vs, Val.inr v.int) (hz : ∀ v ∈ vs, v.kind ≠ 0) (hfit : fitsB 19 (N : Int) = true) (k' n' : Int) (t' : ByteArray) (hv : fnV 19 c vs = ⟨k', n', t'.data.toList⟩) :
    Calls Tryz.prog 11 #[.string x, .int .i64 c, .slice p N cap] w (VRet2 k' n' t' 0 w) := by
  have hHas : HasP ⟨#[117, 112, 112, 101, 114]⟩ N true := fun W => rhas18_upper (N : Int) W true (Lib.hid hfit)
  have hlen := hA.1
  have q1 : (1 : Int) ≤ (N : Int) := (fitsB_num hfit).1
  have q2 : (1 : Int) < 0 ∨ (N : Int) ≤ 1 := (fitsB_num hfit).2
  obtain ⟨v, rfl⟩ := len1 (show vs.length = 1 by omega)
  obtain rfl : N = 1 := hlen.symm
  obtain ⟨b0, o0, hp0, a0⟩ := hA.get (i := 0) rfl
  subst hp0
  have m0 := all_may hc (v := v) (by simp)
  have i0 := hi v (by simp)
  have z0 := hz v (by simp)
  obtain ⟨s0, hs0, hsz0, es0⟩ := shown_v m0 z0 i0
  have hv2 : (⟨2, 0, (shown v).map upper⟩ : Val.V) = ⟨k', n', t'.data.toList⟩ := hv
  rw [es0] at hv2
  have hl : ((s0.data.toList).map upper).length ≤ 400 := by rw [List.length_map]; exact hsz0
  obtain ⟨rfl, rfl, e⟩ := v_inj hv2
  subst e
  exact rcall18_upper x hx hF c b0 o0 1 cap [v] w hA hN hHas hc hz 2 0 (bs (s0.data.toList.map upper)) (fun W hb => rtx_upper b0 o0 cap v.kind v.int (bs v.text) W (hL.below hb) (a0.on hb) i0 s0 hsz0 (Lib.hid hs0) _ (Lib.hid rfl) 2 _ (Lib.hid (ptext_small hl)))

theorem has_k (k : Nat) (hk : k < 20) (n : Int) (w : World) (r : Bool) (hr : Hid (fitsB k n = r)) : Calls Tryz.prog 14 #[.string (fname k), .int .i64 n] w fun e w' => e = .returned (.bool r) ∧ w = w' := by
  match k, hk, hr with
  | 0, _, hr => exact rhas18_abs n w r hr
  | 1, _, hr => exact rhas18_coalesce n w r hr
  | 2, _, hr => exact rhas18_hex n w r hr
  | 3, _, hr => exact rhas18_ifnull n w r hr
  | 4, _, hr => exact rhas18_iif n w r hr
  | 5, _, hr => exact rhas18_instr n w r hr
  | 6, _, hr => exact rhas18_length n w r hr
  | 7, _, hr => exact rhas18_lower n w r hr
  | 8, _, hr => exact rhas18_ltrim n w r hr
  | 9, _, hr => exact rhas18_max n w r hr
  | 10, _, hr => exact rhas18_min n w r hr
  | 11, _, hr => exact rhas18_nullif n w r hr
  | 12, _, hr => exact rhas18_quote n w r hr
  | 13, _, hr => exact rhas18_replace n w r hr
  | 14, _, hr => exact rhas18_rtrim n w r hr
  | 15, _, hr => exact rhas18_sign n w r hr
  | 16, _, hr => exact rhas18_substr n w r hr
  | 17, _, hr => exact rhas18_trim n w r hr
  | 18, _, hr => exact rhas18_typeof n w r hr
  | 19, _, hr => exact rhas18_upper n w r hr
  | k + 20, h, _ => omega
theorem firstFrom_all {p : Nat → Bool} : ∀ (n k : Nat), firstFrom p n k = -1 → ∀ j, k ≤ j → j < k + n → p j = false := by
  intro n
  induction n with
  | zero => intro k _ j h1 h2; omega
  | succ n ih =>
    intro k h j h1 h2
    cases hp : p k with
    | true => rw [firstFrom_yes hp] at h; omega
    | false =>
      rw [firstFrom_no hp] at h
      by_cases e : j = k
      · rw [e]; exact hp
      · exact ih (k + 1) h j (by omega) (by omega)
theorem has_lower (x : List UInt8) (N : Int) (hh : ∀ j, j < 20 → fits x N j = false) (W : World) : Calls Tryz.prog 14 #[.string (bs (x.map Txt.lower)), .int .i64 N] W fun e w' => e = .returned (.bool false) ∧ W = w' := by
  by_cases h : ∃ k, k < 20 ∧ x.map Txt.lower = fnames.getD k []
  · obtain ⟨k, hk, e⟩ := h
    have := hh k hk
    rw [fits_lower x N k hk, decide_eq_true e, Bool.true_and] at this
    rw [e]
    exact has_k k hk N W false (Lib.hid this)
  · have hne : ∀ k, k < 20 → (bs (x.map Txt.lower)).data.toList ≠ fnames.getD k [] := fun k hk e => h ⟨k, hk, e⟩
    exact rhas18_none _ N W (hne 0 (by decide)) (hne 1 (by decide)) (hne 2 (by decide)) (hne 3 (by decide)) (hne 4 (by decide)) (hne 5 (by decide)) (hne 6 (by decide)) (hne 7 (by decide)) (hne 8 (by decide)) (hne 9 (by decide)) (hne 10 (by decide)) (hne 11 (by decide)) (hne 12 (by decide)) (hne 13 (by decide)) (hne 14 (by decide)) (hne 15 (by decide)) (hne 16 (by decide)) (hne 17 (by decide)) (hne 18 (by decide)) (hne 19 (by decide))
theorem has_some (x : List UInt8) (N : Int) (k : Nat) (hk : k < 20) (hf : fits x N k = true) : x.map Txt.lower = fnames.getD k [] ∧ fitsB k N = true := by
  rw [fits_lower x N k hk, Bool.and_eq_true, decide_eq_true_iff] at hf
  exact hf
theorem nulls_k (k : Nat) (hk : k < 20) (b : Bool) (hb : fnullss.getD k false = b) : NullsP (fname k) b := by
  intro W
  match k, hk, hb with
  | 0, _, hb => cases hb; exact rnulls18_abs W
  | 1, _, hb => cases hb; exact rnulls18_coalesce W
  | 2, _, hb => cases hb; exact rnulls18_hex W
  | 3, _, hb => cases hb; exact rnulls18_ifnull W
  | 4, _, hb => cases hb; exact rnulls18_iif W
  | 5, _, hb => cases hb; exact rnulls18_instr W
  | 6, _, hb => cases hb; exact rnulls18_length W
  | 7, _, hb => cases hb; exact rnulls18_lower W
  | 8, _, hb => cases hb; exact rnulls18_ltrim W
  | 9, _, hb => cases hb; exact rnulls18_max W
  | 10, _, hb => cases hb; exact rnulls18_min W
  | 11, _, hb => cases hb; exact rnulls18_nullif W
  | 12, _, hb => cases hb; exact rnulls18_quote W
  | 13, _, hb => cases hb; exact rnulls18_replace W
  | 14, _, hb => cases hb; exact rnulls18_rtrim W
  | 15, _, hb => cases hb; exact rnulls18_sign W
  | 16, _, hb => cases hb; exact rnulls18_substr W
  | 17, _, hb => cases hb; exact rnulls18_trim W
  | 18, _, hb => cases hb; exact rnulls18_typeof W
  | 19, _, hb => cases hb; exact rnulls18_upper W
  | k + 20, h, _ => omega

end Go.Proofs.YtmkgalcojoeniaaGreatDoor

namespace Go.Proofs.YtmkgalcojoeniaaGreatDoor
open Go.RowKit

theorem rdk_0 (x : ByteArray) (hx : x.size ≤ 1048576) (hF : Hid (bs (x.data.toList.map Txt.lower) = fname 0)) (c : Int) (p : Option Addr) (N cap : Nat) (vs : List Val.V) (w : World) (hL : Lits w) (hA : ValsAt w p N vs) (hN : N ≤ 1048576) (hc : vs.all Val.may = true) (hi : ∀ v ∈ vs, Val.inr v.int) (hz0 : fnullss.getD 0 false = false → ∀ v ∈ vs, v.kind ≠ 0) (hfit : fitsB 0 (N : Int) = true) (k' n' : Int) (t' : ByteArray) (hv : fnV 0 c vs = ⟨k', n', t'.data.toList⟩) :
    Calls Tryz.prog 11 #[.string x, .int .i64 c, .slice p N cap] w (VRet2 k' n' t' 0 w) :=
  have hF2 : bs (x.data.toList.map Txt.lower) = ⟨#[97, 98, 115]⟩ := hF.out
  rd_abs x hx (Lib.hid hF2) c p N cap vs w hL hA hN hc hi (hz0 rfl) hfit k' n' t' hv
theorem rdk_1 (x : ByteArray) (hx : x.size ≤ 1048576) (hF : Hid (bs (x.data.toList.map Txt.lower) = fname 1)) (c : Int) (p : Option Addr) (N cap : Nat) (vs : List Val.V) (w : World) (hL : Lits w) (hA : ValsAt w p N vs) (hN : N ≤ 1048576) (hc : vs.all Val.may = true) (hi : ∀ v ∈ vs, Val.inr v.int) (hz0 : fnullss.getD 1 false = false → ∀ v ∈ vs, v.kind ≠ 0) (hfit : fitsB 1 (N : Int) = true) (k' n' : Int) (t' : ByteArray) (hv : fnV 1 c vs = ⟨k', n', t'.data.toList⟩) :
    Calls Tryz.prog 11 #[.string x, .int .i64 c, .slice p N cap] w (VRet2 k' n' t' 0 w) :=
  have hF2 : bs (x.data.toList.map Txt.lower) = ⟨#[99, 111, 97, 108, 101, 115, 99, 101]⟩ := hF.out
  rd_coalesce x hx (Lib.hid hF2) c p N cap vs w hL hA hN hc hi hfit k' n' t' hv
theorem rdk_2 (x : ByteArray) (hx : x.size ≤ 1048576) (hF : Hid (bs (x.data.toList.map Txt.lower) = fname 2)) (c : Int) (p : Option Addr) (N cap : Nat) (vs : List Val.V) (w : World) (hL : Lits w) (hA : ValsAt w p N vs) (hN : N ≤ 1048576) (hc : vs.all Val.may = true) (hi : ∀ v ∈ vs, Val.inr v.int) (hz0 : fnullss.getD 2 false = false → ∀ v ∈ vs, v.kind ≠ 0) (hfit : fitsB 2 (N : Int) = true) (k' n' : Int) (t' : ByteArray) (hv : fnV 2 c vs = ⟨k', n', t'.data.toList⟩) :
    Calls Tryz.prog 11 #[.string x, .int .i64 c, .slice p N cap] w (VRet2 k' n' t' 0 w) :=
  have hF2 : bs (x.data.toList.map Txt.lower) = ⟨#[104, 101, 120]⟩ := hF.out
  rd_hex x hx (Lib.hid hF2) c p N cap vs w hL hA hN hc hi (hz0 rfl) hfit k' n' t' hv
theorem rdk_3 (x : ByteArray) (hx : x.size ≤ 1048576) (hF : Hid (bs (x.data.toList.map Txt.lower) = fname 3)) (c : Int) (p : Option Addr) (N cap : Nat) (vs : List Val.V) (w : World) (hL : Lits w) (hA : ValsAt w p N vs) (hN : N ≤ 1048576) (hc : vs.all Val.may = true) (hi : ∀ v ∈ vs, Val.inr v.int) (hz0 : fnullss.getD 3 false = false → ∀ v ∈ vs, v.kind ≠ 0) (hfit : fitsB 3 (N : Int) = true) (k' n' : Int) (t' : ByteArray) (hv : fnV 3 c vs = ⟨k', n', t'.data.toList⟩) :
    Calls Tryz.prog 11 #[.string x, .int .i64 c, .slice p N cap] w (VRet2 k' n' t' 0 w) :=
  have hF2 : bs (x.data.toList.map Txt.lower) = ⟨#[105, 102, 110, 117, 108, 108]⟩ := hF.out
  rd_ifnull x hx (Lib.hid hF2) c p N cap vs w hL hA hN hc hi hfit k' n' t' hv
theorem rdk_4 (x : ByteArray) (hx : x.size ≤ 1048576) (hF : Hid (bs (x.data.toList.map Txt.lower) = fname 4)) (c : Int) (p : Option Addr) (N cap : Nat) (vs : List Val.V) (w : World) (hL : Lits w) (hA : ValsAt w p N vs) (hN : N ≤ 1048576) (hc : vs.all Val.may = true) (hi : ∀ v ∈ vs, Val.inr v.int) (hz0 : fnullss.getD 4 false = false → ∀ v ∈ vs, v.kind ≠ 0) (hfit : fitsB 4 (N : Int) = true) (k' n' : Int) (t' : ByteArray) (hv : fnV 4 c vs = ⟨k', n', t'.data.toList⟩) :
    Calls Tryz.prog 11 #[.string x, .int .i64 c, .slice p N cap] w (VRet2 k' n' t' 0 w) :=
  have hF2 : bs (x.data.toList.map Txt.lower) = ⟨#[105, 105, 102]⟩ := hF.out
  rd_iif x hx (Lib.hid hF2) c p N cap vs w hL hA hN hc hi hfit k' n' t' hv
theorem rdk_5 (x : ByteArray) (hx : x.size ≤ 1048576) (hF : Hid (bs (x.data.toList.map Txt.lower) = fname 5)) (c : Int) (p : Option Addr) (N cap : Nat) (vs : List Val.V) (w : World) (hL : Lits w) (hA : ValsAt w p N vs) (hN : N ≤ 1048576) (hc : vs.all Val.may = true) (hi : ∀ v ∈ vs, Val.inr v.int) (hz0 : fnullss.getD 5 false = false → ∀ v ∈ vs, v.kind ≠ 0) (hfit : fitsB 5 (N : Int) = true) (k' n' : Int) (t' : ByteArray) (hv : fnV 5 c vs = ⟨k', n', t'.data.toList⟩) :
    Calls Tryz.prog 11 #[.string x, .int .i64 c, .slice p N cap] w (VRet2 k' n' t' 0 w) :=
  have hF2 : bs (x.data.toList.map Txt.lower) = ⟨#[105, 110, 115, 116, 114]⟩ := hF.out
  rd_instr x hx (Lib.hid hF2) c p N cap vs w hL hA hN hc hi (hz0 rfl) hfit k' n' t' hv
theorem rdk_6 (x : ByteArray) (hx : x.size ≤ 1048576) (hF : Hid (bs (x.data.toList.map Txt.lower) = fname 6)) (c : Int) (p : Option Addr) (N cap : Nat) (vs : List Val.V) (w : World) (hL : Lits w) (hA : ValsAt w p N vs) (hN : N ≤ 1048576) (hc : vs.all Val.may = true) (hi : ∀ v ∈ vs, Val.inr v.int) (hz0 : fnullss.getD 6 false = false → ∀ v ∈ vs, v.kind ≠ 0) (hfit : fitsB 6 (N : Int) = true) (k' n' : Int) (t' : ByteArray) (hv : fnV 6 c vs = ⟨k', n', t'.data.toList⟩) :
    Calls Tryz.prog 11 #[.string x, .int .i64 c, .slice p N cap] w (VRet2 k' n' t' 0 w) :=
  have hF2 : bs (x.data.toList.map Txt.lower) = ⟨#[108, 101, 110, 103, 116, 104]⟩ := hF.out
  rd_length x hx (Lib.hid hF2) c p N cap vs w hL hA hN hc hi (hz0 rfl) hfit k' n' t' hv
theorem rdk_7 (x : ByteArray) (hx : x.size ≤ 1048576) (hF : Hid (bs (x.data.toList.map Txt.lower) = fname 7)) (c : Int) (p : Option Addr) (N cap : Nat) (vs : List Val.V) (w : World) (hL : Lits w) (hA : ValsAt w p N vs) (hN : N ≤ 1048576) (hc : vs.all Val.may = true) (hi : ∀ v ∈ vs, Val.inr v.int) (hz0 : fnullss.getD 7 false = false → ∀ v ∈ vs, v.kind ≠ 0) (hfit : fitsB 7 (N : Int) = true) (k' n' : Int) (t' : ByteArray) (hv : fnV 7 c vs = ⟨k', n', t'.data.toList⟩) :
    Calls Tryz.prog 11 #[.string x, .int .i64 c, .slice p N cap] w (VRet2 k' n' t' 0 w) :=
  have hF2 : bs (x.data.toList.map Txt.lower) = ⟨#[108, 111, 119, 101, 114]⟩ := hF.out
  rd_lower x hx (Lib.hid hF2) c p N cap vs w hL hA hN hc hi (hz0 rfl) hfit k' n' t' hv
theorem rdk_8 (x : ByteArray) (hx : x.size ≤ 1048576) (hF : Hid (bs (x.data.toList.map Txt.lower) = fname 8)) (c : Int) (p : Option Addr) (N cap : Nat) (vs : List Val.V) (w : World) (hL : Lits w) (hA : ValsAt w p N vs) (hN : N ≤ 1048576) (hc : vs.all Val.may = true) (hi : ∀ v ∈ vs, Val.inr v.int) (hz0 : fnullss.getD 8 false = false → ∀ v ∈ vs, v.kind ≠ 0) (hfit : fitsB 8 (N : Int) = true) (k' n' : Int) (t' : ByteArray) (hv : fnV 8 c vs = ⟨k', n', t'.data.toList⟩) :
    Calls Tryz.prog 11 #[.string x, .int .i64 c, .slice p N cap] w (VRet2 k' n' t' 0 w) :=
  have hF2 : bs (x.data.toList.map Txt.lower) = ⟨#[108, 116, 114, 105, 109]⟩ := hF.out
  rd_ltrim x hx (Lib.hid hF2) c p N cap vs w hL hA hN hc hi (hz0 rfl) hfit k' n' t' hv
theorem rdk_9 (x : ByteArray) (hx : x.size ≤ 1048576) (hF : Hid (bs (x.data.toList.map Txt.lower) = fname 9)) (c : Int) (p : Option Addr) (N cap : Nat) (vs : List Val.V) (w : World) (hL : Lits w) (hA : ValsAt w p N vs) (hN : N ≤ 1048576) (hc : vs.all Val.may = true) (hi : ∀ v ∈ vs, Val.inr v.int) (hz0 : fnullss.getD 9 false = false → ∀ v ∈ vs, v.kind ≠ 0) (hfit : fitsB 9 (N : Int) = true) (k' n' : Int) (t' : ByteArray) (hv : fnV 9 c vs = ⟨k', n', t'.data.toList⟩) :
    Calls Tryz.prog 11 #[.string x, .int .i64 c, .slice p N cap] w (VRet2 k' n' t' 0 w) :=
  have hF2 : bs (x.data.toList.map Txt.lower) = ⟨#[109, 97, 120]⟩ := hF.out
  rd_max x hx (Lib.hid hF2) c p N cap vs w hL hA hN hc hi (hz0 rfl) hfit k' n' t' hv
theorem rdk_10 (x : ByteArray) (hx : x.size ≤ 1048576) (hF : Hid (bs (x.data.toList.map Txt.lower) = fname 10)) (c : Int) (p : Option Addr) (N cap : Nat) (vs : List Val.V) (w : World) (hL : Lits w) (hA : ValsAt w p N vs) (hN : N ≤ 1048576) (hc : vs.all Val.may = true) (hi : ∀ v ∈ vs, Val.inr v.int) (hz0 : fnullss.getD 10 false = false → ∀ v ∈ vs, v.kind ≠ 0) (hfit : fitsB 10 (N : Int) = true) (k' n' : Int) (t' : ByteArray) (hv : fnV 10 c vs = ⟨k', n', t'.data.toList⟩) :
    Calls Tryz.prog 11 #[.string x, .int .i64 c, .slice p N cap] w (VRet2 k' n' t' 0 w) :=
  have hF2 : bs (x.data.toList.map Txt.lower) = ⟨#[109, 105, 110]⟩ := hF.out
  rd_min x hx (Lib.hid hF2) c p N cap vs w hL hA hN hc hi (hz0 rfl) hfit k' n' t' hv
theorem rdk_11 (x : ByteArray) (hx : x.size ≤ 1048576) (hF : Hid (bs (x.data.toList.map Txt.lower) = fname 11)) (c : Int) (p : Option Addr) (N cap : Nat) (vs : List Val.V) (w : World) (hL : Lits w) (hA : ValsAt w p N vs) (hN : N ≤ 1048576) (hc : vs.all Val.may = true) (hi : ∀ v ∈ vs, Val.inr v.int) (hz0 : fnullss.getD 11 false = false → ∀ v ∈ vs, v.kind ≠ 0) (hfit : fitsB 11 (N : Int) = true) (k' n' : Int) (t' : ByteArray) (hv : fnV 11 c vs = ⟨k', n', t'.data.toList⟩) :
    Calls Tryz.prog 11 #[.string x, .int .i64 c, .slice p N cap] w (VRet2 k' n' t' 0 w) :=
  have hF2 : bs (x.data.toList.map Txt.lower) = ⟨#[110, 117, 108, 108, 105, 102]⟩ := hF.out
  rd_nullif x hx (Lib.hid hF2) c p N cap vs w hL hA hN hc hi hfit k' n' t' hv
theorem rdk_12 (x : ByteArray) (hx : x.size ≤ 1048576) (hF : Hid (bs (x.data.toList.map Txt.lower) = fname 12)) (c : Int) (p : Option Addr) (N cap : Nat) (vs : List Val.V) (w : World) (hL : Lits w) (hA : ValsAt w p N vs) (hN : N ≤ 1048576) (hc : vs.all Val.may = true) (hi : ∀ v ∈ vs, Val.inr v.int) (hz0 : fnullss.getD 12 false = false → ∀ v ∈ vs, v.kind ≠ 0) (hfit : fitsB 12 (N : Int) = true) (k' n' : Int) (t' : ByteArray) (hv : fnV 12 c vs = ⟨k', n', t'.data.toList⟩) :
    Calls Tryz.prog 11 #[.string x, .int .i64 c, .slice p N cap] w (VRet2 k' n' t' 0 w) :=
  have hF2 : bs (x.data.toList.map Txt.lower) = ⟨#[113, 117, 111, 116, 101]⟩ := hF.out
  rd_quote x hx (Lib.hid hF2) c p N cap vs w hL hA hN hc hi hfit k' n' t' hv
theorem rdk_13 (x : ByteArray) (hx : x.size ≤ 1048576) (hF : Hid (bs (x.data.toList.map Txt.lower) = fname 13)) (c : Int) (p : Option Addr) (N cap : Nat) (vs : List Val.V) (w : World) (hL : Lits w) (hA : ValsAt w p N vs) (hN : N ≤ 1048576) (hc : vs.all Val.may = true) (hi : ∀ v ∈ vs, Val.inr v.int) (hz0 : fnullss.getD 13 false = false → ∀ v ∈ vs, v.kind ≠ 0) (hfit : fitsB 13 (N : Int) = true) (k' n' : Int) (t' : ByteArray) (hv : fnV 13 c vs = ⟨k', n', t'.data.toList⟩) :
    Calls Tryz.prog 11 #[.string x, .int .i64 c, .slice p N cap] w (VRet2 k' n' t' 0 w) :=
  have hF2 : bs (x.data.toList.map Txt.lower) = ⟨#[114, 101, 112, 108, 97, 99, 101]⟩ := hF.out
  rd_replace x hx (Lib.hid hF2) c p N cap vs w hL hA hN hc hi (hz0 rfl) hfit k' n' t' hv
theorem rdk_14 (x : ByteArray) (hx : x.size ≤ 1048576) (hF : Hid (bs (x.data.toList.map Txt.lower) = fname 14)) (c : Int) (p : Option Addr) (N cap : Nat) (vs : List Val.V) (w : World) (hL : Lits w) (hA : ValsAt w p N vs) (hN : N ≤ 1048576) (hc : vs.all Val.may = true) (hi : ∀ v ∈ vs, Val.inr v.int) (hz0 : fnullss.getD 14 false = false → ∀ v ∈ vs, v.kind ≠ 0) (hfit : fitsB 14 (N : Int) = true) (k' n' : Int) (t' : ByteArray) (hv : fnV 14 c vs = ⟨k', n', t'.data.toList⟩) :
    Calls Tryz.prog 11 #[.string x, .int .i64 c, .slice p N cap] w (VRet2 k' n' t' 0 w) :=
  have hF2 : bs (x.data.toList.map Txt.lower) = ⟨#[114, 116, 114, 105, 109]⟩ := hF.out
  rd_rtrim x hx (Lib.hid hF2) c p N cap vs w hL hA hN hc hi (hz0 rfl) hfit k' n' t' hv
theorem rdk_15 (x : ByteArray) (hx : x.size ≤ 1048576) (hF : Hid (bs (x.data.toList.map Txt.lower) = fname 15)) (c : Int) (p : Option Addr) (N cap : Nat) (vs : List Val.V) (w : World) (hL : Lits w) (hA : ValsAt w p N vs) (hN : N ≤ 1048576) (hc : vs.all Val.may = true) (hi : ∀ v ∈ vs, Val.inr v.int) (hz0 : fnullss.getD 15 false = false → ∀ v ∈ vs, v.kind ≠ 0) (hfit : fitsB 15 (N : Int) = true) (k' n' : Int) (t' : ByteArray) (hv : fnV 15 c vs = ⟨k', n', t'.data.toList⟩) :
    Calls Tryz.prog 11 #[.string x, .int .i64 c, .slice p N cap] w (VRet2 k' n' t' 0 w) :=
  have hF2 : bs (x.data.toList.map Txt.lower) = ⟨#[115, 105, 103, 110]⟩ := hF.out
  rd_sign x hx (Lib.hid hF2) c p N cap vs w hL hA hN hc hi (hz0 rfl) hfit k' n' t' hv
theorem rdk_16 (x : ByteArray) (hx : x.size ≤ 1048576) (hF : Hid (bs (x.data.toList.map Txt.lower) = fname 16)) (c : Int) (p : Option Addr) (N cap : Nat) (vs : List Val.V) (w : World) (hL : Lits w) (hA : ValsAt w p N vs) (hN : N ≤ 1048576) (hc : vs.all Val.may = true) (hi : ∀ v ∈ vs, Val.inr v.int) (hz0 : fnullss.getD 16 false = false → ∀ v ∈ vs, v.kind ≠ 0) (hfit : fitsB 16 (N : Int) = true) (k' n' : Int) (t' : ByteArray) (hv : fnV 16 c vs = ⟨k', n', t'.data.toList⟩) :
    Calls Tryz.prog 11 #[.string x, .int .i64 c, .slice p N cap] w (VRet2 k' n' t' 0 w) :=
  have hF2 : bs (x.data.toList.map Txt.lower) = ⟨#[115, 117, 98, 115, 116, 114]⟩ := hF.out
  rd_substr x hx (Lib.hid hF2) c p N cap vs w hL hA hN hc hi (hz0 rfl) hfit k' n' t' hv
theorem rdk_17 (x : ByteArray) (hx : x.size ≤ 1048576) (hF : Hid (bs (x.data.toList.map Txt.lower) = fname 17)) (c : Int) (p : Option Addr) (N cap : Nat) (vs : List Val.V) (w : World) (hL : Lits w) (hA : ValsAt w p N vs) (hN : N ≤ 1048576) (hc : vs.all Val.may = true) (hi : ∀ v ∈ vs, Val.inr v.int) (hz0 : fnullss.getD 17 false = false → ∀ v ∈ vs, v.kind ≠ 0) (hfit : fitsB 17 (N : Int) = true) (k' n' : Int) (t' : ByteArray) (hv : fnV 17 c vs = ⟨k', n', t'.data.toList⟩) :
    Calls Tryz.prog 11 #[.string x, .int .i64 c, .slice p N cap] w (VRet2 k' n' t' 0 w) :=
  have hF2 : bs (x.data.toList.map Txt.lower) = ⟨#[116, 114, 105, 109]⟩ := hF.out
  rd_trim x hx (Lib.hid hF2) c p N cap vs w hL hA hN hc hi (hz0 rfl) hfit k' n' t' hv
theorem rdk_18 (x : ByteArray) (hx : x.size ≤ 1048576) (hF : Hid (bs (x.data.toList.map Txt.lower) = fname 18)) (c : Int) (p : Option Addr) (N cap : Nat) (vs : List Val.V) (w : World) (hL : Lits w) (hA : ValsAt w p N vs) (hN : N ≤ 1048576) (hc : vs.all Val.may = true) (hi : ∀ v ∈ vs, Val.inr v.int) (hz0 : fnullss.getD 18 false = false → ∀ v ∈ vs, v.kind ≠ 0) (hfit : fitsB 18 (N : Int) = true) (k' n' : Int) (t' : ByteArray) (hv : fnV 18 c vs = ⟨k', n', t'.data.toList⟩) :
    Calls Tryz.prog 11 #[.string x, .int .i64 c, .slice p N cap] w (VRet2 k' n' t' 0 w) :=
  have hF2 : bs (x.data.toList.map Txt.lower) = ⟨#[116, 121, 112, 101, 111, 102]⟩ := hF.out
  rd_typeof x hx (Lib.hid hF2) c p N cap vs w hL hA hN hc hi hfit k' n' t' hv
theorem rdk_19 (x : ByteArray) (hx : x.size ≤ 1048576) (hF : Hid (bs (x.data.toList.map Txt.lower) = fname 19)) (c : Int) (p : Option Addr) (N cap : Nat) (vs : List Val.V) (w : World) (hL : Lits w) (hA : ValsAt w p N vs) (hN : N ≤ 1048576) (hc : vs.all Val.may = true) (hi : ∀ v ∈ vs, Val.inr v.int) (hz0 : fnullss.getD 19 false = false → ∀ v ∈ vs, v.kind ≠ 0) (hfit : fitsB 19 (N : Int) = true) (k' n' : Int) (t' : ByteArray) (hv : fnV 19 c vs = ⟨k', n', t'.data.toList⟩) :
    Calls Tryz.prog 11 #[.string x, .int .i64 c, .slice p N cap] w (VRet2 k' n' t' 0 w) :=
  have hF2 : bs (x.data.toList.map Txt.lower) = ⟨#[117, 112, 112, 101, 114]⟩ := hF.out
  rd_upper x hx (Lib.hid hF2) c p N cap vs w hL hA hN hc hi (hz0 rfl) hfit k' n' t' hv
theorem rd_all (k : Nat) (hk : k < 20) (x : ByteArray) (hx : x.size ≤ 1048576) (hF : Hid (bs (x.data.toList.map Txt.lower) = fname k)) (c : Int) (p : Option Addr) (N cap : Nat) (vs : List Val.V) (w : World) (hL : Lits w) (hA : ValsAt w p N vs) (hN : N ≤ 1048576) (hc : vs.all Val.may = true) (hi : ∀ v ∈ vs, Val.inr v.int) (hz0 : fnullss.getD k false = false → ∀ v ∈ vs, v.kind ≠ 0) (hfit : fitsB k (N : Int) = true) (k' n' : Int) (t' : ByteArray) (hv : fnV k c vs = ⟨k', n', t'.data.toList⟩) :
    Calls Tryz.prog 11 #[.string x, .int .i64 c, .slice p N cap] w (VRet2 k' n' t' 0 w) := by
  have hcs : k = 0 ∨ k = 1 ∨ k = 2 ∨ k = 3 ∨ k = 4 ∨ k = 5 ∨ k = 6 ∨ k = 7 ∨ k = 8 ∨ k = 9 ∨ k = 10 ∨ k = 11 ∨ k = 12 ∨ k = 13 ∨ k = 14 ∨ k = 15 ∨ k = 16 ∨ k = 17 ∨ k = 18 ∨ k = 19 := by omega
  rcases hcs with rfl | rfl | rfl | rfl | rfl | rfl | rfl | rfl | rfl | rfl | rfl | rfl | rfl | rfl | rfl | rfl | rfl | rfl | rfl | rfl
  · exact rdk_0 x hx hF c p N cap vs w hL hA hN hc hi hz0 hfit k' n' t' hv
  · exact rdk_1 x hx hF c p N cap vs w hL hA hN hc hi hz0 hfit k' n' t' hv
  · exact rdk_2 x hx hF c p N cap vs w hL hA hN hc hi hz0 hfit k' n' t' hv
  · exact rdk_3 x hx hF c p N cap vs w hL hA hN hc hi hz0 hfit k' n' t' hv
  · exact rdk_4 x hx hF c p N cap vs w hL hA hN hc hi hz0 hfit k' n' t' hv
  · exact rdk_5 x hx hF c p N cap vs w hL hA hN hc hi hz0 hfit k' n' t' hv
  · exact rdk_6 x hx hF c p N cap vs w hL hA hN hc hi hz0 hfit k' n' t' hv
  · exact rdk_7 x hx hF c p N cap vs w hL hA hN hc hi hz0 hfit k' n' t' hv
  · exact rdk_8 x hx hF c p N cap vs w hL hA hN hc hi hz0 hfit k' n' t' hv
  · exact rdk_9 x hx hF c p N cap vs w hL hA hN hc hi hz0 hfit k' n' t' hv
  · exact rdk_10 x hx hF c p N cap vs w hL hA hN hc hi hz0 hfit k' n' t' hv
  · exact rdk_11 x hx hF c p N cap vs w hL hA hN hc hi hz0 hfit k' n' t' hv
  · exact rdk_12 x hx hF c p N cap vs w hL hA hN hc hi hz0 hfit k' n' t' hv
  · exact rdk_13 x hx hF c p N cap vs w hL hA hN hc hi hz0 hfit k' n' t' hv
  · exact rdk_14 x hx hF c p N cap vs w hL hA hN hc hi hz0 hfit k' n' t' hv
  · exact rdk_15 x hx hF c p N cap vs w hL hA hN hc hi hz0 hfit k' n' t' hv
  · exact rdk_16 x hx hF c p N cap vs w hL hA hN hc hi hz0 hfit k' n' t' hv
  · exact rdk_17 x hx hF c p N cap vs w hL hA hN hc hi hz0 hfit k' n' t' hv
  · exact rdk_18 x hx hF c p N cap vs w hL hA hN hc hi hz0 hfit k' n' t' hv
  · exact rdk_19 x hx hF c p N cap vs w hL hA hN hc hi hz0 hfit k' n' t' hv
set_option maxHeartbeats 4000000 in
theorem rcall_is (nm : ByteArray) (c : Int) (p : Option Addr) (N cap : Nat) (vs : List Val.V) (w : World) (hL : Lits w) (hnm : nm.size ≤ 1048576) (hA : ValsAt w p N vs) (hN : N ≤ 1048576) (hi : ∀ v ∈ vs, Val.inr v.int) (k' n' : Int) (t' : ByteArray) (E : Int) (hv : Hid (callV nm.data.toList c vs = (⟨k', n', t'.data.toList⟩, E))) :
    Calls Tryz.prog 11 #[.string nm, .int .i64 c, .slice p N cap] w (VRet2 k' n' t' E w) := by
  have hv' := hv.out
  unfold callV at hv'
  rw [hA.1] at hv'
  have hz : ∀ {E' : Int}, ((Val.zero, E') : Val.V × Int) = (⟨k', n', t'.data.toList⟩, E) → k' = 0 ∧ n' = 0 ∧ t' = ⟨#[]⟩ ∧ E = E' := by
    intro E' h
    injection h with h1 h2
    injection h1 with e1 e2 e3
    exact ⟨e1.symm, e2.symm, by rw [← bs_of t', ← e3]; rfl, h2.symm⟩
  rcases firstFrom_range (fits nm.data.toList (N : Int)) 20 0 with h | ⟨k, h, _, hk, hf⟩
  · have hF : findAt nm.data.toList (N : Int) = -1 := h
    rw [if_pos (by rw [hF]; decide)] at hv'
    obtain ⟨rfl, rfl, rfl, rfl⟩ := hz hv'
    exact rcall18_none nm _ hnm (Lib.hid rfl) c p N cap vs w hA hN (fun W => has_lower nm.data.toList (N : Int) (fun j hj => firstFrom_all 20 0 h j (Nat.zero_le _) (by omega)) W)
  · have hF : findAt nm.data.toList (N : Int) = (k : Int) := h
    rw [hF, if_neg (by omega), Int.toNat_natCast] at hv'
    have hk' : k < 20 := by omega
    obtain ⟨hlow, hfit⟩ := has_some _ _ k hk' hf
    have hFn : Hid (bs (nm.data.toList.map Txt.lower) = fname k) := Lib.hid (by rw [hlow]; rfl)
    have hHas : HasP (fname k) N true := fun W => has_k k hk' (N : Int) W true (Lib.hid hfit)
    cases hm : vs.any (fun v => !Val.may v) with
    | true =>
      rw [if_pos hm] at hv'
      obtain ⟨rfl, rfl, rfl, rfl⟩ := hz hv'
      have hall : vs.all Val.may = false := by
        obtain ⟨v, hvm, e⟩ := List.any_eq_true.1 hm
        rw [List.all_eq_false]
        exact ⟨v, hvm, by simpa using e⟩
      exact rcall18_bad nm _ hnm hFn c p N cap vs w hA hN hHas hall
    | false =>
      rw [if_neg (by rw [hm]; simp)] at hv'
      have hall : vs.all Val.may = true := List.all_eq_true.2 fun v hvm => by
        have := List.any_eq_false.1 hm v hvm
        simpa using this
      by_cases hnz : fnullss.getD k false = false ∧ vs.any (fun v => v.kind == 0) = true
      · rw [if_pos hnz] at hv'
        obtain ⟨rfl, rfl, rfl, rfl⟩ := hz hv'
        exact rcall18_null nm _ hnm hFn c p N cap vs w hA hN hHas hall (nulls_k k hk' false hnz.1) hnz.2
      · rw [if_neg hnz] at hv'
        injection hv' with h1 h2
        subst h2
        have hz0 : fnullss.getD k false = false → ∀ v ∈ vs, v.kind ≠ 0 := fun hn v hvm e => hnz ⟨hn, List.any_eq_true.2 ⟨v, hvm, by simpa using e⟩⟩
        exact rd_all k hk' nm hnm hFn c p N cap vs w hL hA hN hall hi hz0 hfit k' n' t' h1

end Go.Proofs.YtmkgalcojoeniaaGreatDoor

namespace Go.Proofs.YtmkgalcojoeniaaGreatDoor
open Go.RowKit
attribute [local go_sem] run_store_fn run_store_nofn

theorem rhas_lower (s : ByteArray) (N : Int) (W : World) (r : Bool) (hr : Hid (decide (0 ≤ findAt s.data.toList N) = r)) (f : ByteArray) (hf : Hid (bs (s.data.toList.map Txt.lower) = f)) :
    Calls Tryz.prog 14 #[.string f, .int .i64 N] W fun e w' => e = .returned (.bool r) ∧ W = w' := by
  have hf := hf.out
  subst hf
  rcases firstFrom_range (fits s.data.toList N) 20 0 with h | ⟨k, h, _, hk, hft⟩
  · have hF : findAt s.data.toList N = -1 := h
    obtain rfl : r = false := by rw [← hr.out, hF]; rfl
    exact has_lower _ N (fun j hj => firstFrom_all 20 0 h j (Nat.zero_le _) (by omega)) W
  · have hF : findAt s.data.toList N = (k : Int) := h
    obtain rfl : r = true := by rw [← hr.out, hF]; simp
    obtain ⟨hlow, hfit⟩ := has_some _ _ k (by omega) hft
    rw [hlow]
    exact has_k k (by omega) N W true (Lib.hid hfit)
set_option maxHeartbeats 4000000 in
theorem funcs_call (s : ByteArray) (c : Int) (p : Option Addr) (N cap : Nat) (vs : List Val.V) (w : World) (hs : s.size ≤ 1048576) (hA : ValsAt w p N vs) (hN : N ≤ 1048576) (hi : ∀ v ∈ vs, Val.inr v.int) (hL : Lits w) :
    Calls Tryz.prog 3 #[.string s, .int .i64 c, .slice p N cap] w fun e w' => e = .returned (.bool true) ∧ Below w.heap.size w w' := by
  obtain ⟨⟨⟨k', n', tl⟩, E⟩, hv⟩ : ∃ q, callV s.data.toList c vs = q := ⟨_, rfl⟩
  obtain ⟨t', rfl⟩ : ∃ t : ByteArray, tl = t.data.toList := ⟨bs tl, rfl⟩
  obtain ⟨r, hr⟩ : ∃ r, decide (0 ≤ findAt s.data.toList (N : Int)) = r := ⟨_, rfl⟩
  obtain ⟨f, hf⟩ : ∃ f, bs (s.data.toList.map Txt.lower) = f := ⟨_, rfl⟩
  replace hv := Lib.hid hv
  replace hr := Lib.hid hr
  replace hf := Lib.hid hf
  replace hi := Lib.hid hi
  go_enter Tryz.func3, Tryz.ntmps3
  go_wp2_with fail
  refine (rcopy_any p N cap vs w hA hN).mono ?_
  rintro e w1 ⟨p1, c1, rfl, hown, hb1⟩
  have hA1 := valsAt_own hown hA.1
  have hcap : N ≤ c1 := by
    rcases hown.2 with ⟨e, h0⟩ | ⟨g, cap', cur, e, _, _, h1, _⟩
    · omega
    · injection e with _ _ e3
      omega
  clear hown
  go_wp2_with fail
  refine (call_is s c p1 N c1 vs _ (hL.below hb1) hs hA1 hN hcap hi.out k' n' t' E hv).mono ?_
  rintro e w2 ⟨rfl, hb2⟩
  have hB2 := below_step hb1 hb1.size hb2
  have hV := V3.new w2 k' n' t'
  have hB3 := hB2.alloc hB2.size (.cells #[.int .i64 k', .int .i64 n', .string t'] 25)
  go_upto_region 2 with fail
  obtain ⟨gv, hgv⟩ : ∃ g, w2.heap.size = g := ⟨_, rfl⟩
  obtain ⟨W3, hW3⟩ : ∃ W, w2.alloc (.cells #[.int .i64 k', .int .i64 n', .string t'] 25) = W := ⟨_, rfl⟩
  rw [hW3] at hB3
  rw [hW3, hgv] at hV
  rw [hW3, hgv]
  clear hW3 hgv hb1 hb2 hB2 hA1
  go_wp2_with fail
  refine (rcall_is s c p N cap vs _ (hL.below hB3) hs (hA.below hB3) hN hi.out k' n' t' E hv).mono ?_
  rintro e w4 ⟨rfl, hb4⟩
  have hV4 := hV.on hb4
  have hB4 := below_step hB3 hB3.size hb4
  have hX := V3.new w4 k' n' t'
  have hV5 := hV4.alloc (.cells #[.int .i64 k', .int .i64 n', .string t'] 25)
  have hB5 := hB4.alloc hB4.size (.cells #[.int .i64 k', .int .i64 n', .string t'] 25)
  go_upto_region 3 with fail
  obtain ⟨gw, hgw⟩ : ∃ g, w4.heap.size = g := ⟨_, rfl⟩
  obtain ⟨W5, hW5⟩ : ∃ W, w4.alloc (.cells #[.int .i64 k', .int .i64 n', .string t'] 25) = W := ⟨_, rfl⟩
  rw [hW5] at hB5 hV5
  rw [hW5, hgw] at hX
  rw [hW5, hgw]
  clear hW5 hgw hb4 hV hV4 hB3 hB4
  go_wp2_with fail
  refine (head18_any _ (hL.below hB5)).mono ?_
  rintro e w6 ⟨rfl, hb6⟩
  obtain ⟨x0, x1, x2, _, _, _⟩ := (hX.on hb6).cells
  obtain ⟨y0, y1, y2, _, _, _⟩ := (hV5.on hb6).cells
  have hB6 := below_step hB5 hB5.size hb6
  go_wp2_with fail
  refine (has_any s (N : Int) _ hs r hr).mono ?_
  rintro e w7 ⟨rfl, hb7⟩
  have hB7 := below_step hB6 hB6.size hb7
  go_wp2_with fail
  refine (rlower_any _ _ hs _ hf).mono ?_
  rintro e w8 ⟨rfl, hb8⟩
  have hB8 := below_step hB7 hB7.size hb8
  go_wp2_with fail
  refine (rhas_lower s (N : Int) _ r hr f hf).mono ?_
  rintro e w9 ⟨rfl, rfl⟩
  go_wp2
  go_ret
  exact ⟨rfl, hB8⟩
end Go.Proofs.YtmkgalcojoeniaaGreatDoor

