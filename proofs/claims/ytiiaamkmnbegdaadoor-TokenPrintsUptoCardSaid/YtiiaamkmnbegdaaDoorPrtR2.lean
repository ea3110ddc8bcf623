/- Walks: Written of the reference of layer 15, of texts, blobs and parameters. -/
import Derived.Test.YtiiaamkmnbegdaaDoorPrtR
namespace Go.Proofs.YtiiaamkmnbegdaaDoor
set_option maxRecDepth 100000
set_option linter.unusedVariables false
set_option linter.unusedSimpArgs false
open Go.RowKit

theorem mid_bs (a b : UInt8) (X : List UInt8) : (bs (a :: (X ++ [b]))).extract 1 ((bs (a :: (X ++ [b]))).size - 1) = bs X := by
  rw [bs_size]
  have e : (bs (a :: (X ++ [b]))).extract 1 ((a :: (X ++ [b])).length - 1) = bs ((((a :: (X ++ [b])).drop 1)).take ((a :: (X ++ [b])).length - 1 - 1)) := Lib.extract_mk _ _ _
  rw [e]
  congr 1
  simp
theorem tail_bs (a : UInt8) (X : List UInt8) : (bs (a :: X)).extract 1 (bs (a :: X)).size = bs X := by
  rw [bs_size]
  have e : (bs (a :: X)).extract 1 (a :: X).length = bs ((((a :: X).drop 1)).take ((a :: X).length - 1)) := Lib.extract_mk _ _ _
  rw [e]
  congr 1
  simp
theorem byte_bs (t : ByteArray) (i : Nat) (h : i < t.size) : (t.extract i (i + 1)).data.toList = [t[i]] := by
  have h' : i < t.data.toList.length := h
  rw [Lib.extract_data, List.drop_eq_getElem_cons h']
  simp
  rfl
theorem take_oneR (t : ByteArray) (i : Nat) (h : i < t.size) : t.data.toList.take (i + 1) = t.data.toList.take i ++ [t[i]] := by
  have h' : i < t.data.toList.length := h
  rw [List.take_succ_eq_append_getElem h']
  rfl

theorem rone_text (t : ByteArray) (i : Nat) (w : World) (h : i < t.size) :
    Calls Tryd.prog 23 #[.agg #[.int .i64 2, .int .i64 0, .string (t.extract i (i + 1))]] w fun e w' => e = .returned (.tuple #[.string (bs (39 :: (Tok.dbl [t[i]] ++ [39]))), .int .i64 0]) ∧ Below w.heap.size w w' := by
  have hd := byte_bs t i h
  have hm : Val.may ⟨2, 0, (t.extract i (i + 1)).data.toList⟩ = true := by rw [hd]; simp [Val.may]
  have hsz : (t.extract i (i + 1)).size ≤ 1048576 := by
    have h1 : (t.extract i (i + 1)).data.toList.length = (t.extract i (i + 1)).size := rfl
    rw [hd] at h1
    have h2 : (t.extract i (i + 1)).size = 1 := h1.symm
    rw [h2]; omega
  refine (rprint_text 0 (t.extract i (i + 1)) w hm hsz).mono fun e w' ⟨he, hb⟩ => ⟨?_, hb⟩
  rw [he, Val.print_text hm rfl]
  simp only [hd]
  rfl

set_option maxHeartbeats 2000000 in
theorem rwritten_text (a : Int) (t : ByteArray) (w : World) (hs : t.size ≤ 1048576) :
    Calls Tryd.prog 51 #[.agg #[.int .i64 3, .int .i64 a, .string t]] w (WrittenP 3 t w) := by
  have hw := Tok.written_text t.data.toList
  replace hw := Lib.hid hw
  have H0 := startW w 3 a t
  go_enter Tryd.func51, Tryd.ntmps51
  go_wp2
  go_loopw [5, 6] (fun so iv wr => ∃ (i : Nat) (S : ByteArray), so = .string S ∧ iv = .int .i64 (i : Int) ∧ i ≤ t.size ∧ Hid (S = bs (Tok.dbl (t.data.toList.take i))) ∧ wr.cell? ⟨w.heap.size, 0, none⟩ = some (.int .i64 3) ∧ wr.cell? ⟨w.heap.size, 1, none⟩ = some (.int .i64 a) ∧ wr.cell? ⟨w.heap.size, 2, none⟩ = some (.string t) ∧ w.heap.size < wr.heap.size ∧ Below w.heap.size w wr) (fun _ iv _ => t.size - (intOf iv).toNat)
  case atStart => exact ⟨0, ⟨#[]⟩, rfl, by go_num, by omega, Lib.hid rfl, H0⟩
  case round =>
    obtain ⟨i, S, rfl, rfl, hi, hS, hC⟩ := hrel
    obtain ⟨c0, c1, c2, hz, hB⟩ := id hC
    have hSl : S.size ≤ 2097152 := by
      have e1 : S.size = (Tok.dbl (t.data.toList.take i)).length := by rw [hS.out, bs_size]
      have e2 := Tok.dbl_len (t.data.toList.take i)
      have e3 := List.length_take_le i t.data.toList
      omega
    by_cases hlt : i < t.size
    · have hlB : decide ((i : Int) < (t.size : Int)) = true := by simp; omega
      obtain ⟨X, hX⟩ : ∃ X, Tok.dbl [t[i]] = X := ⟨_, rfl⟩
      have hXl : X.length ≤ 2 := by rw [← hX]; have := Tok.dbl_len [t[i]]; simp at this ⊢; omega
      have hsn : S ++ bs X = bs (Tok.dbl (t.data.toList.take (i + 1))) := by
        rw [take_oneR t i hlt, Tok.dbl_append, hX, ← bs_app, hS.out]
      have hone := fun W => rone_text t i W hlt
      rw [hX] at hone
      obtain ⟨O, hO⟩ : ∃ O, bs (39 :: (X ++ [39])) = O := ⟨_, rfl⟩
      have hOs : O.size = X.length + 2 := by rw [← hO, bs_size]; simp
      have hOm : O.extract 1 (X.length + 1) = bs X := by
        have h1 := mid_bs 39 39 X
        rw [hO, hOs] at h1
        exact h1
      rw [hO] at hone
      obtain ⟨XB, hXB⟩ : ∃ XB, bs X = XB := ⟨_, rfl⟩
      have hXs : XB.size ≤ 2 := by rw [← hXB, bs_size]; exact hXl
      rw [hXB] at hsn hOm
      have z1 : ¬ 9223372036854775807 < S.size + XB.size := by omega
      have b1 : w.heap.size ≤ wr.heap.size := hB.size
      replace hsn := Lib.hid hsn
      clear hX hXB hO
      go_wp2_with (go_at_call 23; refine (hone _).mono ?_; rintro e w2 ⟨rfl, hb2⟩; have hC := keepW hC hb2)
      go_roundw
      case rel => exact ⟨i + 1, _, rfl, by go_num, by omega, hsn, hC⟩
      case measure => simp [intOf]; omega
    · have hlB : decide ((i : Int) < (t.size : Int)) = false := by simp; omega
      have hall : S = bs (Tok.dbl t.data.toList) := by
        have := hS.out
        rwa [List.take_of_length_le (Nat.le_of_not_lt hlt)] at this
      have z1 : ¬ 9223372036854775807 < 1 + S.size := by omega
      have z2 : ¬ 9223372036854775807 < 1 + S.size + 1 := by omega
      replace hall := Lib.hid hall
      clear hS
      go_wp2
      go_ret2
      refine ⟨_, true, rfl, fun x hx => ?_, fun hx => ?_, hB⟩
      · rw [hw.out] at hx; cases hx
        refine ⟨?_, rfl⟩
        rw [hall.out, bs_one, bs_app, bs_app]
        rfl
      · rw [hw.out] at hx; cases hx

theorem rone_blob (t : ByteArray) (i : Nat) (w : World) (h : i < t.size) :
    Calls Tryd.prog 23 #[.agg #[.int .i64 3, .int .i64 0, .string (t.extract i (i + 1))]] w fun e w' => e = .returned (.tuple #[.string (bs (120 :: 39 :: (Tok.hexs [t[i]] ++ [39]))), .int .i64 0]) ∧ Below w.heap.size w w' := by
  have hd := byte_bs t i h
  have hm : Val.may ⟨3, 0, (t.extract i (i + 1)).data.toList⟩ = true := by rw [hd]; simp [Val.may]
  have hsz : (t.extract i (i + 1)).size ≤ 1048576 := by
    have h1 : (t.extract i (i + 1)).data.toList.length = (t.extract i (i + 1)).size := rfl
    rw [hd] at h1
    have h2 : (t.extract i (i + 1)).size = 1 := h1.symm
    rw [h2]; omega
  refine (rprint_blob 0 (t.extract i (i + 1)) w hm hsz).mono fun e w' ⟨he, hb⟩ => ⟨?_, hb⟩
  rw [he, Val.print_blob hm rfl]
  simp only [hd]
  rfl

set_option maxHeartbeats 2000000 in
theorem rwritten_blob (a : Int) (t : ByteArray) (w : World) (hs : t.size ≤ 1048576) :
    Calls Tryd.prog 51 #[.agg #[.int .i64 4, .int .i64 a, .string t]] w (WrittenP 4 t w) := by
  have hw := Tok.written_blob t.data.toList
  replace hw := Lib.hid hw
  have H0 := startW w 4 a t
  go_enter Tryd.func51, Tryd.ntmps51
  go_wp2
  go_loopw [5, 6] (fun so iv wr => ∃ (i : Nat) (S : ByteArray), so = .string S ∧ iv = .int .i64 (i : Int) ∧ i ≤ t.size ∧ Hid (S = bs (Tok.hexs (t.data.toList.take i))) ∧ wr.cell? ⟨w.heap.size, 0, none⟩ = some (.int .i64 4) ∧ wr.cell? ⟨w.heap.size, 1, none⟩ = some (.int .i64 a) ∧ wr.cell? ⟨w.heap.size, 2, none⟩ = some (.string t) ∧ w.heap.size < wr.heap.size ∧ Below w.heap.size w wr) (fun _ iv _ => t.size - (intOf iv).toNat)
  case atStart => exact ⟨0, ⟨#[]⟩, rfl, by go_num, by omega, Lib.hid rfl, H0⟩
  case round =>
    obtain ⟨i, S, rfl, rfl, hi, hS, hC⟩ := hrel
    obtain ⟨c0, c1, c2, hz, hB⟩ := id hC
    have hSl : S.size ≤ 2097152 := by
      have e1 : S.size = (Tok.hexs (t.data.toList.take i)).length := by rw [hS.out, bs_size]
      have e2 := Tok.hexs_len (t.data.toList.take i)
      have e3 := List.length_take_le i t.data.toList
      omega
    by_cases hlt : i < t.size
    · have hlB : decide ((i : Int) < (t.size : Int)) = true := by simp; omega
      obtain ⟨X, hX⟩ : ∃ X, Tok.hexs [t[i]] = X := ⟨_, rfl⟩
      have hXl : X.length ≤ 2 := by rw [← hX]; have := Tok.hexs_len [t[i]]; simp at this ⊢; omega
      have hsn : S ++ bs X = bs (Tok.hexs (t.data.toList.take (i + 1))) := by
        rw [take_oneR t i hlt, Tok.hexs_append, hX, ← bs_app, hS.out]
      have hone := fun W => rone_blob t i W hlt
      rw [hX] at hone
      obtain ⟨O, hO⟩ : ∃ O, bs (120 :: 39 :: (X ++ [39])) = O := ⟨_, rfl⟩
      have hOs : O.size = X.length + 3 := by rw [← hO, bs_size]; simp
      obtain ⟨O2, hO2⟩ : ∃ O2, bs (39 :: (X ++ [39])) = O2 := ⟨_, rfl⟩
      have hOt : O.extract 1 (X.length + 3) = O2 := by
        have h1 := tail_bs 120 (39 :: (X ++ [39]))
        rw [hO, hOs, hO2] at h1
        exact h1
      have hO2s : O2.size = X.length + 2 := by rw [← hO2, bs_size]; simp
      have hOm : O2.extract 1 (X.length + 1) = bs X := by
        have h1 := mid_bs 39 39 X
        rw [hO2, hO2s] at h1
        exact h1
      rw [hO] at hone
      obtain ⟨XB, hXB⟩ : ∃ XB, bs X = XB := ⟨_, rfl⟩
      have hXs : XB.size ≤ 2 := by rw [← hXB, bs_size]; exact hXl
      rw [hXB] at hsn hOm
      have z1 : ¬ 9223372036854775807 < S.size + XB.size := by omega
      have b1 : w.heap.size ≤ wr.heap.size := hB.size
      replace hsn := Lib.hid hsn
      clear hX hXB hO hO2
      go_wp2_with (go_at_call 23; refine (hone _).mono ?_; rintro e w2 ⟨rfl, hb2⟩; have hC := keepW hC hb2)
      go_roundw
      case rel => exact ⟨i + 1, _, rfl, by go_num, by omega, hsn, hC⟩
      case measure => simp [intOf]; omega
    · have hlB : decide ((i : Int) < (t.size : Int)) = false := by simp; omega
      have hall : S = bs (Tok.hexs t.data.toList) := by
        have := hS.out
        rwa [List.take_of_length_le (Nat.le_of_not_lt hlt)] at this
      have z1 : ¬ 9223372036854775807 < 2 + S.size := by omega
      have z2 : ¬ 9223372036854775807 < 2 + S.size + 1 := by omega
      replace hall := Lib.hid hall
      clear hS
      go_wp2
      go_ret2
      refine ⟨_, true, rfl, fun x hx => ?_, fun hx => ?_, hB⟩
      · rw [hw.out] at hx; cases hx
        refine ⟨?_, rfl⟩
        rw [hall.out, bs_one, show (⟨#[120, 39]⟩ : ByteArray) = bs [120, 39] from rfl, bs_app, bs_app]
        rfl
      · rw [hw.out] at hx; cases hx

set_option maxHeartbeats 2000000 in
theorem rwritten_param (a : Int) (t : ByteArray) (w : World) (hs : t.size ≤ 1048576) :
    Calls Tryd.prog 51 #[.agg #[.int .i64 5, .int .i64 a, .string t]] w (WrittenP 5 t w) := by
  have hw := Tok.written_param t.data.toList
  have hl : t.data.toList.length = t.size := rfl
  rw [hl] at hw
  obtain ⟨S, hSe⟩ : ∃ S, (⟨#[63]⟩ : ByteArray) ++ t = S := ⟨_, rfl⟩
  have hSd : S.data.toList = 63 :: t.data.toList := by rw [← hSe]; simp [ByteArray.data_append]
  have hSs : S.size = t.size + 1 := by
    have : S.data.toList.length = S.size := rfl
    rw [hSd, List.length_cons, hl] at this; exact this.symm
  have hm := Tok.one_mark (l := S.data.toList) (i := 0) (by rw [hSd]; rfl)
  rw [hSd, Tok.runEnd_cons] at hm
  obtain ⟨r, hr⟩ : ∃ r, Tok.runEnd Tok.digit t.data.toList 0 = r := ⟨_, rfl⟩
  rw [hr] at hm hw
  simp only [Prod.mk.injEq] at hm
  have hs4 : S.size ≤ 4294967296 := by omega
  have hpos : 0 < S.size := by omega
  have hend := fun W => rend_any S 0 W hs4 hpos
  rw [hSd, hm.1, hm.2] at hend
  have hend' : ∀ W, Calls Tryd.prog 80 #[.string S, .int .i64 0] W fun e w' => e = .returned (.tuple #[.int .i64 ((r : Int) + 1), .int .i64 5]) ∧ W = w' := hend
  have hby : ∀ W, Calls Tryd.prog 81 #[.string S, .int .i64 5] W fun e w' => e = .returned (.string t) ∧ Below W.heap.size W w' := fun W => by
    have h := rbytes_any S 5 W hs4 (by omega) (by omega) (by omega)
    have e : bs (Tok.rtext 5 S.data.toList) = t := by
      rw [Tok.rtext, if_neg (by decide), if_neg (by decide), if_pos rfl, hSd]
      exact bs_of t
    rw [e] at h
    exact h
  have hneB : (S.toList == []) = false := by
    have e1 := toList_own S.data.toList
    rw [bs_of] at e1
    rw [e1, hSd]
    rfl
  have z1 : ¬ 9223372036854775807 < 1 + t.size := by omega
  have hrB : (t.toList == t.toList) = true := by simp
  have H0 := startW w 5 a t
  have hSb : S = bs (63 :: t.data.toList) := by rw [← hSd, bs_of]
  replace hSb := Lib.hid hSb
  by_cases hf : r = t.size
  · have hfB : ((r : Int) + 1 == (t.size : Int) + 1) = true := by simp [hf]
    rw [if_pos hf] at hw
    replace hw := Lib.hid hw
    clear hm hr hl hf hSd hend
    go_enter Tryd.func51, Tryd.ntmps51
    go_wp2_with (go_at_call 80; refine (hend' _).mono ?_; rintro e w1 ⟨rfl, hww⟩; obtain rfl := hww)
    go_region_held3 (fun W => W.cell? ⟨w.heap.size, 0, none⟩ = some (.int .i64 5) ∧ W.cell? ⟨w.heap.size, 1, none⟩ = some (.int .i64 a) ∧ W.cell? ⟨w.heap.size, 2, none⟩ = some (.string t) ∧ w.heap.size < W.heap.size ∧ Below w.heap.size w W) (first | assumption | exact keepW (by assumption) (by assumption) | exact keepW0 (by assumption)) (first
      | (go_at_call 81; refine (hby _).mono ?_; rintro e w1 ⟨rfl, hb1⟩))
    all_goals (
      go_wp2
      go_ret2
      rename_i hh
      refine ⟨S, true, rfl, fun x hx => ?_, fun hx => ?_, hh.2.2.2.2⟩
      · rw [hw.out] at hx; cases hx; exact ⟨hSb.out, rfl⟩
      · rw [hw.out] at hx; cases hx)
  · have hfB : ((r : Int) + 1 == (t.size : Int) + 1) = false := by simp; omega
    rw [if_neg hf] at hw
    replace hw := Lib.hid hw
    clear hm hr hl hf hSd hend
    go_enter Tryd.func51, Tryd.ntmps51
    go_wp2_with (go_at_call 80; refine (hend' _).mono ?_; rintro e w1 ⟨rfl, hww⟩; obtain rfl := hww)
    go_quiet (fail)
    go_wp2
    go_ret2
    refine ⟨S, false, rfl, fun x hx => ?_, fun _ => rfl, below_drewN H0.2.2.2.2 _⟩
    rw [hw.out] at hx; cases hx

theorem rwritten_any (k a : Int) (t : ByteArray) (w : World) (hs : t.size ≤ 1048576) :
    Calls Tryd.prog 51 #[.agg #[.int .i64 k, .int .i64 a, .string t]] w (WrittenP k t w) := by
  by_cases h3 : k = 3
  · subst h3; exact rwritten_text a t w hs
  · by_cases h4 : k = 4
    · subst h4; exact rwritten_blob a t w hs
    · by_cases h5 : k = 5
      · subst h5; exact rwritten_param a t w hs
      · by_cases h : k = 1 ∨ k = 2 ∨ k = 6
        · exact rwritten_as k a t w h hs
        · exact rwritten_no k a t w (by omega) hs

end Go.Proofs.YtiiaamkmnbegdaaDoor
