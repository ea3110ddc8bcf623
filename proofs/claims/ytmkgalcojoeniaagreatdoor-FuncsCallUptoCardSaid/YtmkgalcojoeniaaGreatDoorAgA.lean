/- FuncsAgree: what the functions answer, in plain words. FuncsAgree: the law's call. FuncsAgree: what the law's calls answer. A drawn region with many orders: an invariant that each operation keeps, whichever comes up, till a set of them is done. FuncsAgree: values in blocks of their own. FuncsAgree: the region that makes three pieces: an invariant. -/
import Derived.Test.YtmkgalcojoeniaaGreatDoorFcC
import Derived.Deep.RegionHeld3
set_option maxRecDepth 100000
set_option linter.unusedVariables false
set_option linter.unusedSimpArgs false
namespace Go.Proofs.YtmkgalcojoeniaaGreatDoor
open Go.RowKit

theorem lower_lower (c : UInt8) : Txt.lower (Txt.lower c) = Txt.lower c := by
  have all : ∀ m : Fin 256, Txt.lower (Txt.lower (UInt8.ofNat m.val)) = Txt.lower (UInt8.ofNat m.val) := by decide
  have := all ⟨c.toNat, c.toNat_lt⟩
  simpa using this
theorem lower_upper (c : UInt8) : Txt.lower (upper c) = Txt.lower c := by
  have all : ∀ m : Fin 256, Txt.lower (upper (UInt8.ofNat m.val)) = Txt.lower (UInt8.ofNat m.val) := by decide
  have := all ⟨c.toNat, c.toNat_lt⟩
  simpa using this
theorem pieceT_head (s : List UInt8) (k : Nat) : pieceT s 0 (k : Int) = s.take k := by
  have h0 : clipN 0 s.length = 0 := by unfold clipN; rw [if_neg (by omega)]; split <;> omega
  have h1 : clipN (k : Int) s.length = min k s.length := by unfold clipN; rw [if_neg (by omega)]; split <;> omega
  unfold pieceT
  rw [h0, h1, Nat.zero_min, List.drop_zero, Nat.sub_zero]
  by_cases h : k ≤ s.length
  · rw [Nat.min_eq_left h]
  · rw [Nat.min_eq_right (by omega), List.take_length, List.take_of_length_le (by omega)]
theorem pieceT_tail (s : List UInt8) (k : Nat) : pieceT s (k : Int) (s.length : Int) = s.drop k := by
  have h0 : clipN (k : Int) s.length = min k s.length := by unfold clipN; rw [if_neg (by omega)]; split <;> omega
  have h1 : clipN (s.length : Int) s.length = s.length := by unfold clipN; rw [if_neg (by omega), if_neg (by omega)]; omega
  unfold pieceT
  rw [h0, h1]
  by_cases h : k ≤ s.length
  · rw [Nat.min_eq_left h, Nat.min_eq_left h, List.take_of_length_le (by rw [List.length_drop]; omega)]
  · rw [Nat.min_eq_right (a := k) (by omega), Nat.min_self, Nat.sub_self, List.take_zero, List.drop_eq_nil_of_le (by omega)]
theorem index_le {s sub : List UInt8} : ∀ i : Nat, i ≤ s.length → Lib.occAt s sub i = true → ∃ j : Nat, j ≤ i ∧ Lib.index s sub = (j : Int) := by
  intro i
  induction i using Nat.strongRecOn with
  | _ i ih =>
    intro hi ho
    by_cases h : ∃ j, j < i ∧ Lib.occAt s sub j = true
    · obtain ⟨j, hj, hjo⟩ := h
      obtain ⟨m, hm, e⟩ := ih j hj (by omega) hjo
      exact ⟨m, by omega, e⟩
    · refine ⟨i, Nat.le_refl _, Lib.index_first hi ho fun j hj => ?_⟩
      cases hb : Lib.occAt s sub j with
      | false => rfl
      | true => exact absurd ⟨j, hj, hb⟩ h
/-- a text's end is found at its place, or ahead of it -/
theorem index_drop (s : List UInt8) (k : Nat) : ∃ j : Nat, Lib.index s (s.drop k) = (j : Int) ∧ j ≤ k := by
  by_cases h : k ≤ s.length
  · obtain ⟨j, hj, e⟩ := index_le (s := s) (sub := s.drop k) k h (by unfold Lib.occAt; exact List.isPrefixOf_iff_prefix.2 (List.prefix_refl _))
    exact ⟨j, e, hj⟩
  · obtain ⟨j, hj, e⟩ := index_le (s := s) (sub := s.drop k) 0 (by omega) (by rw [List.drop_eq_nil_of_le (by omega)]; rfl)
    exact ⟨j, e, by omega⟩
theorem repT_same (x y : List UInt8) : repT x y y = x := by
  unfold repT
  split
  · rfl
  · unfold Lib.replaceAll Lib.replace
    rw [if_pos (by simp)]
theorem trimL_append (cut a b : List UInt8) : trimL cut (a ++ b) = if trimL cut a = [] then trimL cut b else trimL cut a ++ b := by
  induction a with
  | nil => simp [trimL]
  | cons c a ih =>
    rw [List.cons_append, trimL, trimL]
    by_cases h : Fit.inT cut c = true
    · rw [if_pos h, if_pos h, ih]
    · rw [if_neg h, if_neg h, if_neg (by simp)]; rfl
theorem trimR_cons (cut : List UInt8) (c : UInt8) (l : List UInt8) : trimR cut (c :: l) = if trimR cut l = [] ∧ Fit.inT cut c = true then [] else c :: trimR cut l := by
  unfold trimR
  rw [List.reverse_cons, trimL_append]
  by_cases h : trimL cut l.reverse = []
  · rw [if_pos h, h, trimL]
    by_cases hc : Fit.inT cut c = true
    · rw [if_pos hc, if_pos ⟨rfl, hc⟩]; rfl
    · rw [if_neg hc, if_neg (fun x => hc x.2)]; rfl
  · rw [if_neg h, if_neg (fun x => h (List.reverse_eq_nil_iff.1 x.1))]
    simp
theorem trim_swap (cut l : List UInt8) : trimR cut (trimL cut l) = trimL cut (trimR cut l) := by
  induction l with
  | nil => rfl
  | cons c l ih =>
    rw [trimL, trimR_cons]
    by_cases h : Fit.inT cut c = true
    · rw [if_pos h, ih]
      by_cases hn : trimR cut l = []
      · rw [if_pos ⟨hn, h⟩, hn]
      · rw [if_neg (fun x => hn x.1), trimL, if_pos h]
    · rw [if_neg h, if_neg (fun x => h x.2), trimL, if_neg h, trimR_cons, if_neg (fun x => h x.2)]
theorem trimT_both (l : List UInt8) : trimT [32] true true l = trimT [32] true false (trimT [32] false true l) := by
  show trimR [32] (trimL [32] l) = trimL [32] (trimR [32] l)
  exact trim_swap _ l

theorem callV_at {nm : List UInt8} {c : Int} {vs : List Val.V} (k : Nat) (hf : findAt nm (vs.length : Int) = (k : Int)) (hm : ∀ v ∈ vs, Val.may v = true ∧ v.kind ≠ 0) : callV nm c vs = (fnV k c vs, 0) := by
  unfold callV
  rw [hf, if_neg (by omega), if_neg, if_neg, Int.toNat_natCast]
  · rintro ⟨_, h⟩
    obtain ⟨v, hv, e⟩ := List.any_eq_true.1 h
    exact (hm v hv).2 (by simpa using e)
  · intro h
    obtain ⟨v, hv, e⟩ := List.any_eq_true.1 h
    rw [(hm v hv).1] at e
    cases e
theorem find_lower : findAt [108, 111, 119, 101, 114] 1 = 7 := by decide
theorem find_upper : findAt [117, 112, 112, 101, 114] 1 = 19 := by decide
theorem find_trim : findAt [116, 114, 105, 109] 1 = 17 := by decide
theorem find_ltrim : findAt [108, 116, 114, 105, 109] 1 = 8 := by decide
theorem find_rtrim : findAt [114, 116, 114, 105, 109] 1 = 14 := by decide
theorem find_sub2 : findAt [115, 117, 98, 115, 116, 114] 2 = 16 := by decide
theorem find_sub3 : findAt [115, 117, 98, 115, 116, 114] 3 = 16 := by decide
theorem find_length : findAt [108, 101, 110, 103, 116, 104] 1 = 6 := by decide
theorem find_instr : findAt [105, 110, 115, 116, 114] 2 = 5 := by decide
theorem find_replace : findAt [114, 101, 112, 108, 97, 99, 101] 3 = 13 := by decide
theorem find_quote : findAt [113, 117, 111, 116, 101] 1 = 12 := by decide

/-- a text as a value -/
def tv (l : List UInt8) : Val.V := ⟨2, 0, l⟩
theorem tv_may {l : List UInt8} (h : l.length ≤ 400) : Val.may (tv l) = true ∧ (tv l).kind ≠ 0 := ⟨Val.may_iff.2 (.inr (.inr ⟨.inl rfl, rfl, h⟩)), show (2 : Int) ≠ 0 by decide⟩
theorem tv_shown {l : List UInt8} (h : l.length ≤ 400) : shown (tv l) = l := by
  unfold shown
  rw [Val.pshow_text (tv_may h).1 (show (2 : Int) ≠ 0 by decide) (show (2 : Int) ≠ 1 by decide)]
  rfl
end Go.Proofs.YtmkgalcojoeniaaGreatDoor

namespace Go.Proofs.YtmkgalcojoeniaaGreatDoor
open Go.RowKit
attribute [local go_sem] run_store_fn run_store_nofn

theorem vals_at {W : World} {g : Nat} {vs : List Val.V} {a : Array Value} (hg : W.heap[g]? = some (.cells a 25 (0, 0))) (ha : a.toList = valC vs) (h0 : vs ≠ []) (hf : ∀ i x, a[i]? = some x → W.cell? ⟨g, i, none⟩ = some x) : ValsAt W (some ⟨g, 0, none⟩) vs.length vs := by
  refine ⟨rfl, .inr ⟨g, 0, rfl, (Array.getElem?_eq_some_iff.1 hg).1, fun k v hk => ?_⟩⟩
  obtain ⟨c0, c1, c2⟩ := valC_at vs k v hk
  rw [← ha, Array.getElem?_toList] at c0 c1 c2
  rw [Nat.zero_add]
  exact ⟨hf _ _ c0, hf _ _ c1, hf _ _ c2⟩
set_option maxHeartbeats 1000000 in
theorem lcall_any (nm : ByteArray) (p : Option Addr) (N cap : Nat) (vs : List Val.V) (w : World) (hL : Lits w) (hnm : nm.size ≤ 1048576) (hA : ValsAt w p N vs) (hN : N ≤ 1048576) (hcap : N ≤ cap) (hi : ∀ v ∈ vs, Val.inr v.int) (k' n' : Int) (t' : ByteArray) (E : Int) (hv : Hid (callV nm.data.toList 0 vs = (⟨k', n', t'.data.toList⟩, E))) :
    Calls Tryz.prog 19 #[.string nm, .slice p N cap] w (VRet k' n' t' w) := by
  have hb0 := below_new w (.cells #[.int .i64 0, .int .i64 0, .string ⟨#[]⟩] 25)
  have hL0 := hL.alloc (.cells #[.int .i64 0, .int .i64 0, .string ⟨#[]⟩] 25)
  have hg0 := V3.new w 0 0 ⟨#[]⟩
  go_enter Tryz.func19, Tryz.ntmps19
  go_wp2_with (go_at_call 9; refine (call_is nm 0 p N cap vs _ hL0 hnm (hA.below hb0) hN hcap hi _ _ _ _ hv).mono ?_; rintro e w1 ⟨rfl, hb1⟩; have hg1 := (hg0.on hb1).alloc (.cells #[.int .i64 k', .int .i64 n', .string t'] 25); obtain ⟨a0, a1, a2, a3, a4, a5⟩ := hg1.cells)
  exact bodyPost_ret (v := .agg #[.int .i64 k', .int .i64 n', .string t']) (by simp only [results, Tryz.results19]; go_simp) rfl ⟨rfl, below_put ((hb0.trans (hb1.mono hb0.size)).alloc (by have := hb0.size; have := hb1.size; omega) _) (Nat.le_refl _)⟩
end Go.Proofs.YtmkgalcojoeniaaGreatDoor

namespace Go.Proofs.YtmkgalcojoeniaaGreatDoor
open Go.RowKit

theorem one_of {v : Val.V} (h : Val.may v = true ∧ v.kind ≠ 0) : ∀ x ∈ [v], Val.may x = true ∧ x.kind ≠ 0 := by intro x hx; rw [List.mem_singleton.1 hx]; exact h
theorem two_of {v v1 : Val.V} (h : Val.may v = true ∧ v.kind ≠ 0) (h1 : Val.may v1 = true ∧ v1.kind ≠ 0) : ∀ x ∈ [v, v1], Val.may x = true ∧ x.kind ≠ 0 := by
  intro x hx
  rcases List.mem_cons.1 hx with rfl | hx
  · exact h
  · exact one_of h1 x hx
theorem three_of {v v1 v2 : Val.V} (h : Val.may v = true ∧ v.kind ≠ 0) (h1 : Val.may v1 = true ∧ v1.kind ≠ 0) (h2 : Val.may v2 = true ∧ v2.kind ≠ 0) : ∀ x ∈ [v, v1, v2], Val.may x = true ∧ x.kind ≠ 0 := by
  intro x hx
  rcases List.mem_cons.1 hx with rfl | hx
  · exact h
  · exact two_of h1 h2 x hx
theorem iv_ok (n : Int) : Val.may ⟨1, n, []⟩ = true ∧ (⟨1, n, []⟩ : Val.V).kind ≠ 0 := ⟨Val.may_iff.2 (.inr (.inl ⟨rfl, rfl⟩)), show (1 : Int) ≠ 0 by decide⟩
theorem num_iv (n : Int) : Val.num ⟨1, n, []⟩ = ⟨1, n, []⟩ := Val.num_int (iv_ok n).1 rfl
theorem pv_ok (k : Int) {l : List UInt8} (h : l.length ≤ 400) : Val.may (pieceV k l) = true ∧ (pieceV k l).kind ≠ 0 := by
  unfold pieceV
  split
  · exact ⟨Val.may_iff.2 (.inr (.inr ⟨.inr rfl, rfl, h⟩)), show (3 : Int) ≠ 0 by decide⟩
  · exact ⟨Val.may_iff.2 (.inr (.inr ⟨.inl rfl, rfl, h⟩)), show (2 : Int) ≠ 0 by decide⟩
theorem pv_shown (k : Int) {l : List UInt8} (h : l.length ≤ 400) : shown (pieceV k l) = l := by
  have hk : (pieceV k l).kind ≠ 1 := by
    unfold pieceV
    split
    · exact show (3 : Int) ≠ 1 by decide
    · exact show (2 : Int) ≠ 1 by decide
  unfold shown
  rw [Val.pshow_text (pv_ok k h).1 (pv_ok k h).2 hk]
  rfl
theorem c_low {v : Val.V} (h : Val.may v = true ∧ v.kind ≠ 0) : callV [108, 111, 119, 101, 114] 0 [v] = (tv ((shown v).map Txt.lower), 0) := callV_at 7 find_lower (one_of h)
theorem c_up {v : Val.V} (h : Val.may v = true ∧ v.kind ≠ 0) : callV [117, 112, 112, 101, 114] 0 [v] = (tv ((shown v).map upper), 0) := callV_at 19 find_upper (one_of h)
theorem c_low2 {l : List UInt8} (h : l.length ≤ 400) : callV [108, 111, 119, 101, 114] 0 [tv (l.map Txt.lower)] = (tv (l.map Txt.lower), 0) := by
  rw [c_low (tv_may (by simpa using h)), tv_shown (by simpa using h), List.map_map]
  have : Txt.lower ∘ Txt.lower = Txt.lower := funext lower_lower
  rw [this]
theorem c_lowup {l : List UInt8} (h : l.length ≤ 400) : callV [108, 111, 119, 101, 114] 0 [tv (l.map upper)] = (tv (l.map Txt.lower), 0) := by
  rw [c_low (tv_may (by simpa using h)), tv_shown (by simpa using h), List.map_map]
  have : Txt.lower ∘ upper = Txt.lower := funext lower_upper
  rw [this]
theorem c_trim {v : Val.V} (h : Val.may v = true ∧ v.kind ≠ 0) : callV [116, 114, 105, 109] 0 [v] = (tv (trimT [32] true true (shown v)), 0) := callV_at 17 find_trim (one_of h)
theorem c_rtrim {v : Val.V} (h : Val.may v = true ∧ v.kind ≠ 0) : callV [114, 116, 114, 105, 109] 0 [v] = (tv (trimT [32] false true (shown v)), 0) := callV_at 14 find_rtrim (one_of h)
theorem c_ltrim {v : Val.V} (h : Val.may v = true ∧ v.kind ≠ 0) : callV [108, 116, 114, 105, 109] 0 [v] = (tv (trimT [32] true false (shown v)), 0) := callV_at 8 find_ltrim (one_of h)
theorem c_lrtrim {l : List UInt8} (h : l.length ≤ 400) : callV [108, 116, 114, 105, 109] 0 [tv (trimT [32] false true l)] = (tv (trimT [32] true true l), 0) := by
  have hl : (trimT [32] false true l).length ≤ 400 := Nat.le_trans (trimR_len [32] l) h
  rw [c_ltrim (tv_may hl), tv_shown hl, ← trimT_both]
theorem c_sub2 {v : Val.V} (h : Val.may v = true ∧ v.kind ≠ 0) (K : Nat) : callV [115, 117, 98, 115, 116, 114] 0 [v, ⟨1, (K : Int) + 1, []⟩] = (pieceV v.kind ((shown v).drop K), 0) := by
  have e : fnV 16 0 [v, ⟨1, (K : Int) + 1, []⟩] = pieceV v.kind ((shown v).drop K) := by
    show substr2V v ⟨1, (K : Int) + 1, []⟩ = _
    unfold substr2V
    rw [num_iv, if_neg (show ¬ (1 : Int) = 0 by decide)]
    show pieceV v.kind (pieceT (shown v) (beginI ((K : Int) + 1) (shown v).length) ((shown v).length : Int)) = _
    unfold beginI
    rw [if_neg (by omega), show (K : Int) + 1 - 1 = K by omega, pieceT_tail]
  rw [callV_at 16 find_sub2 (two_of h (iv_ok _)), e]
theorem c_all {v : Val.V} (h : Val.may v = true ∧ v.kind ≠ 0) : callV [115, 117, 98, 115, 116, 114] 0 [v, ⟨1, 1, []⟩] = (pieceV v.kind (shown v), 0) := by
  have := c_sub2 h 0
  rw [List.drop_zero] at this
  exact this
theorem c_sub3 {v : Val.V} (h : Val.may v = true ∧ v.kind ≠ 0) (K : Nat) (hK : K ≤ 400) : callV [115, 117, 98, 115, 116, 114] 0 [v, ⟨1, 1, []⟩, ⟨1, (K : Int), []⟩] = (pieceV v.kind ((shown v).take K), 0) := by
  have e : fnV 16 0 [v, ⟨1, 1, []⟩, ⟨1, (K : Int), []⟩] = pieceV v.kind ((shown v).take K) := by
    show substr3V v ⟨1, 1, []⟩ ⟨1, (K : Int), []⟩ = _
    unfold substr3V
    rw [num_iv, num_iv, if_neg (show ¬ (1 : Int) = 0 by decide), if_neg (show ¬ (1 : Int) = 0 by decide)]
    have e0 : beginI (⟨1, 1, []⟩ : Val.V).int (shown v).length = 0 := rfl
    have e1 : clampI (0 + (⟨1, (K : Int), []⟩ : Val.V).int) = K := by
      show clampI (0 + (K : Int)) = K
      unfold clampI
      rw [if_neg (by omega), if_neg (by omega)]
      omega
    rw [e0, e1, if_neg (by omega), pieceT_head]
  rw [callV_at 16 find_sub3 (three_of h (iv_ok _) (iv_ok _)), e]
theorem c_len {v : Val.V} (h : Val.may v = true ∧ v.kind ≠ 0) : callV [108, 101, 110, 103, 116, 104] 0 [v] = (⟨1, (shown v).length, []⟩, 0) := callV_at 6 find_length (one_of h)
theorem c_instr {v : Val.V} (h : Val.may v = true ∧ v.kind ≠ 0) {l : List UInt8} (hl : l.length ≤ 400) (k : Int) : callV [105, 110, 115, 116, 114] 0 [v, pieceV k l] = (⟨1, Lib.index (shown v) l + 1, []⟩, 0) := by
  have e : fnV 5 0 [v, pieceV k l] = ⟨1, Lib.index (shown v) (shown (pieceV k l)) + 1, []⟩ := rfl
  rw [callV_at 5 find_instr (two_of h (pv_ok k hl)), e, pv_shown k hl]
theorem c_repl {v : Val.V} (h : Val.may v = true ∧ v.kind ≠ 0) (hs : (shown v).length ≤ 400) {l : List UInt8} (hl : l.length ≤ 400) (k : Int) : callV [114, 101, 112, 108, 97, 99, 101] 0 [v, pieceV k l, pieceV k l] = (tv (shown v), 0) := by
  have e : fnV 13 0 [v, pieceV k l, pieceV k l] = Val.ptext (repT (shown v) (shown (pieceV k l)) (shown (pieceV k l))) := rfl
  rw [callV_at 13 find_replace (three_of h (pv_ok k hl) (pv_ok k hl)), e, repT_same]
  unfold Val.ptext
  rw [if_neg (by omega)]
  rfl
theorem c_quote {v : Val.V} (h : Val.may v = true ∧ v.kind ≠ 0) : callV [113, 117, 111, 116, 101] 0 [v] = (Val.ptext (Val.print v).1, 0) := callV_at 12 find_quote (one_of h)

end Go.Proofs.YtmkgalcojoeniaaGreatDoor

namespace Go.Proofs.YtmkgalcojoeniaaGreatDoor
open Go.RowKit

theorem count_set_list (m : List Bool) : ∀ (i : Nat), m[i]? = some false → (m.set i true).count false + 1 = m.count false := by
  induction m with
  | nil => intro i hv; simp at hv
  | cons b m ih =>
    intro i hv
    cases i with
    | zero => simp at hv; subst hv; simp
    | succ i =>
      have := ih i (by simpa using hv)
      simp only [List.set_cons_succ, List.count_cons]
      omega
theorem count_set {l : Array Bool} {i : Nat} (h : l.getD i true = false) : (l.setIfInBounds i true).toList.count false + 1 = l.toList.count false := by
  have hi : i < l.size := by
    rcases Nat.lt_or_ge i l.size with h' | h'
    · exact h'
    · simp [Array.getD, Nat.not_lt.2 h'] at h
  have hv : l.toList[i]? = some false := by
    rw [Array.getElem?_toList, Array.getElem?_eq_getElem hi]
    simp [Array.getD, hi] at h
    rw [h]
  rw [Array.toList_setIfInBounds]
  exact count_set_list _ i hv
/-- while 'listed' is not T, each ready operation keeps I; T is handed over -/
theorem wpAnyH_phase {P : Program} {md : Region.Mode} {ops : Array Oper} {Q : Exit → Act → World → Prop} {S : World → Prop} (I : Act → Array Bool → Act → World → Prop) (T : Array Bool) {a0 : Act}
    (hstep : ∀ listed a w i, I a0 listed a w → listed.getD i true = false → (∀ o, ops[i]? = some o → ∀ e ∈ o.after, Region.binds md e = true → listed.getD e.on false = true) → listed ≠ T →
      wpOp P ops Q i (fun a' w' => S w' ∧ I a0 (listed.setIfInBounds i true) a' w') a w)
    (hready : ∀ listed a w, I a0 listed a w → listed ≠ T → Region.ready md ops listed ≠ [])
    (hend : ∀ a w, I a0 T a w → wpAnyH P md ops Q S (T.toList.count false) T a w) :
    ∀ (fuel : Nat) (listed : Array Bool) (a : Act) (w : World), listed.toList.count false = fuel → I a0 listed a w → wpAnyH P md ops Q S fuel listed a w := by
  intro fuel
  induction fuel with
  | zero =>
    intro listed a w hc hI
    by_cases hT : listed = T
    · subst hT
      rw [← hc]
      exact hend _ _ hI
    · exfalso
      have hr := hready _ _ _ hI hT
      cases h : Region.ready md ops listed with
      | nil => exact hr h
      | cons i r =>
        have hi : i ∈ Region.ready md ops listed := by rw [h]; exact List.mem_cons_self
        have := count_set (mem_ready.1 hi).1
        omega
  | succ fuel ih =>
    intro listed a w hc hI
    by_cases hT : listed = T
    · subst hT
      rw [← hc]
      exact hend _ _ hI
    · refine ⟨fun h0 => absurd h0 (hready _ _ _ hI hT), fun i hi => ?_⟩
      obtain ⟨h1, o, ho, h2⟩ := mem_ready.1 hi
      refine wpOp_mono (fun a' w' h => ⟨h.1, ih _ _ _ ?_ h.2⟩) (hstep listed a w i hI h1 (fun o' ho' => ?_) hT)
      · have := count_set h1
        omega
      · obtain rfl := Option.some.inj (ho.symm.trans ho')
        exact h2
/-- the same from the act at hand -/
theorem wpAnyH_phase0 {P : Program} {md : Region.Mode} {ops : Array Oper} {Q : Exit → Act → World → Prop} {S : World → Prop} {fuel : Nat} {listed : Array Bool} {a : Act} {w : World} (I : Act → Array Bool → Act → World → Prop) (T : Array Bool) (hc : listed.toList.count false = fuel)
    (hstep : ∀ listed a' w i, I a listed a' w → listed.getD i true = false → (∀ o, ops[i]? = some o → ∀ e ∈ o.after, Region.binds md e = true → listed.getD e.on false = true) → listed ≠ T →
      wpOp P ops Q i (fun a'' w' => S w' ∧ I a (listed.setIfInBounds i true) a'' w') a' w)
    (hready : ∀ listed a' w, I a listed a' w → listed ≠ T → Region.ready md ops listed ≠ [])
    (hend : ∀ a' w, I a T a' w → wpAnyH P md ops Q S (T.toList.count false) T a' w)
    (h : I a listed a w) : wpAnyH P md ops Q S fuel listed a w := wpAnyH_phase I T hstep hready hend fuel listed a w hc h

end Go.Proofs.YtmkgalcojoeniaaGreatDoor

namespace Go.Proofs.YtmkgalcojoeniaaGreatDoor
open Go.RowKit

/-- values in blocks of their own -/
def AgS (w : World) (L : List (Nat × Val.V)) (W : World) : Prop := (∀ x ∈ L, V3 W x.1 x.2.kind x.2.int (bs x.2.text)) ∧ Below w.heap.size w W
theorem AgS.on {w W W' : World} {L : List (Nat × Val.V)} (h : AgS w L W) (hb : Below W.heap.size W W') : AgS w L W' := ⟨fun x hx => (h.1 x hx).on hb, below_step h.2 h.2.size hb⟩
theorem AgS.drew {w W : World} {L : List (Nat × Val.V)} (h : AgS w L W) : AgS w L W.drew := ⟨h.1, h.2.drew⟩
theorem AgS.alloc {w W : World} {L : List (Nat × Val.V)} (h : AgS w L W) (o : Obj) : AgS w L (W.alloc o) := h.on (below_new W o)
theorem AgS.new {w W : World} {L : List (Nat × Val.V)} (h : AgS w L W) (k n : Int) (t : ByteArray) : AgS w ((W.heap.size, ⟨k, n, t.data.toList⟩) :: L) (W.alloc (.cells #[.int .i64 k, .int .i64 n, .string t] 25)) := by
  refine ⟨fun x hx => ?_, (h.alloc _).2⟩
  rcases List.mem_cons.1 hx with rfl | hx
  · show V3 _ _ k n (bs t.data.toList)
    rw [bs_of]
    exact V3.new W k n t
  · exact (h.alloc _).1 x hx
theorem AgS.get {w W : World} {L : List (Nat × Val.V)} (h : AgS w L W) {g : Nat} {k n : Int} {t : ByteArray} (hm : (g, (⟨k, n, t.data.toList⟩ : Val.V)) ∈ L) : V3 W g k n t := h.1 _ hm
theorem AgS.lt {w W : World} {L : List (Nat × Val.V)} (h : AgS w L W) {g : Nat} {v : Val.V} (hm : (g, v) ∈ L) : g < W.heap.size := (h.1 _ hm).lt
/-- a value put into a block that is not among them, but there -/
theorem AgS.put {w W : World} {L : List (Nat × Val.V)} (h : AgS w L W) {g : Nat} {k0 n0 : Int} {t0 : ByteArray} (hg : V3 W g k0 n0 t0) (hw : w.heap.size ≤ g) (hne : ∀ x ∈ L, x.1 ≠ g) (k n : Int) (t : ByteArray) :
    AgS w ((g, ⟨k, n, t.data.toList⟩) :: L) (((W.setCell ⟨g, 0, none⟩ (.int .i64 k)).setCell ⟨g, 1, none⟩ (.int .i64 n)).setCell ⟨g, 2, none⟩ (.string t)) := by
  refine ⟨fun x hx => ?_, below_put h.2 hw⟩
  rcases List.mem_cons.1 hx with rfl | hx
  · show V3 _ _ k n (bs t.data.toList)
    rw [bs_of]
    exact hg.put k n t
  · exact (h.1 x hx).other (hne x hx) _ _ _

theorem vals_new (W : World) (k n : Int) (t : ByteArray) : ValsAt (W.alloc (.cells #[.int .i64 k, .int .i64 n, .string t] 25)) (some ⟨W.heap.size, 0, none⟩) 1 [⟨k, n, t.data.toList⟩] := by
  obtain ⟨x0, x1, x2, _, _, _⟩ := (V3.new W k n t).cells
  refine ⟨rfl, .inr ⟨W.heap.size, 0, rfl, by simp, fun i v hi => ?_⟩⟩
  cases i with
  | zero =>
    simp only [List.getElem?_cons_zero, Option.some.injEq] at hi
    subst hi
    rw [bs_of]
    exact ⟨x0, x1, x2⟩
  | succ i => simp at hi
theorem vals_of (W : World) {vs : List Val.V} {a : Array Value} (ha : a.toList = valC vs) (h0 : vs ≠ []) : ValsAt (W.alloc (.cells a 25)) (some ⟨W.heap.size, 0, none⟩) vs.length vs :=
  vals_at (heap_new W _) ha h0 fun i x h => by rw [World.cell?_alloc_at _ _ _ _ rfl]; exact h
theorem vals_new2 (W : World) (k n : Int) (t : ByteArray) (k1 n1 : Int) (t1 : ByteArray) : ValsAt (W.alloc (.cells #[.int .i64 k, .int .i64 n, .string t, .int .i64 k1, .int .i64 n1, .string t1] 25)) (some ⟨W.heap.size, 0, none⟩) 2 [⟨k, n, t.data.toList⟩, ⟨k1, n1, t1.data.toList⟩] :=
  vals_of W rfl (by simp)
theorem vals_new3 (W : World) (k n : Int) (t : ByteArray) (k1 n1 : Int) (t1 : ByteArray) (k2 n2 : Int) (t2 : ByteArray) : ValsAt (W.alloc (.cells #[.int .i64 k, .int .i64 n, .string t, .int .i64 k1, .int .i64 n1, .string t1, .int .i64 k2, .int .i64 n2, .string t2] 25)) (some ⟨W.heap.size, 0, none⟩) 3 [⟨k, n, t.data.toList⟩, ⟨k1, n1, t1.data.toList⟩, ⟨k2, n2, t2.data.toList⟩] :=
  vals_of W rfl (by simp)

/-- a slice of a block of its own -/
def SlAt (W : World) (x : Value) (vs : List Val.V) : Prop := ∃ g, x = .slice (some ⟨g, 0, none⟩) vs.length vs.length ∧ ValsAt W (some ⟨g, 0, none⟩) vs.length vs
theorem SlAt.on {W W' : World} {x : Value} {vs : List Val.V} (h : SlAt W x vs) (hb : Below W.heap.size W W') : SlAt W' x vs := by
  obtain ⟨g, e, hv⟩ := h
  exact ⟨g, e, hv.below hb⟩
/-- a pointer to a block that is new -/
def PtAt (ws : Nat) (W : World) (x : Value) : Prop := ∃ g, x = .pointer (some ⟨g, 0, none⟩) ∧ ws ≤ g ∧ V3 W g 0 0 ⟨#[]⟩
theorem PtAt.on {ws : Nat} {W W' : World} {x : Value} (h : PtAt ws W x) (hb : Below W.heap.size W W') : PtAt ws W' x := by
  obtain ⟨g, e, h1, h2⟩ := h
  exact ⟨g, e, h1, h2.on hb⟩
theorem PtAt.new (ws : Nat) (W : World) (h : ws ≤ W.heap.size) : PtAt ws (W.alloc (.cells #[.int .i64 0, .int .i64 0, .string ⟨#[]⟩] 25)) (.pointer (some ⟨W.heap.size, 0, none⟩)) := ⟨_, rfl, h, V3.new W 0 0 ⟨#[]⟩⟩
theorem PtAt.ne {ws : Nat} {W : World} {x : Value} (h : PtAt ws W x) : x ≠ .pointer (some ⟨W.heap.size, 0, none⟩) := by
  obtain ⟨g, rfl, _, h2⟩ := h
  intro e
  injection e with e
  injection e with e
  injection e with e
  have := h2.lt
  omega

end Go.Proofs.YtmkgalcojoeniaaGreatDoor

namespace Go.Proofs.YtmkgalcojoeniaaGreatDoor
open Go.RowKit

theorem inrz : Val.inr 0 := ⟨by decide, by decide⟩
theorem sz18 {a : Nat} (n : Nat) (h : n ≤ 1048576) (e : a = n := by rfl) : a ≤ 1048576 := e ▸ h
theorem inr1 {k n : Int} {l : List UInt8} (h : Val.inr n) : ∀ v ∈ [(⟨k, n, l⟩ : Val.V)], Val.inr v.int := by intro v hv; rw [List.mem_singleton.1 hv]; exact h
theorem inr2 {k n k1 n1 : Int} {l l1 : List UInt8} (h : Val.inr n) (h1 : Val.inr n1) : ∀ v ∈ [(⟨k, n, l⟩ : Val.V), ⟨k1, n1, l1⟩], Val.inr v.int := by
  intro v hv
  rcases List.mem_cons.1 hv with rfl | hv
  · exact h
  · exact inr1 h1 v hv
theorem inr3 {k n k1 n1 k2 n2 : Int} {l l1 l2 : List UInt8} (h : Val.inr n) (h1 : Val.inr n1) (h2 : Val.inr n2) : ∀ v ∈ [(⟨k, n, l⟩ : Val.V), ⟨k1, n1, l1⟩, ⟨k2, n2, l2⟩], Val.inr v.int := by
  intro v hv
  rcases List.mem_cons.1 hv with rfl | hv
  · exact h
  · exact inr2 h1 h2 v hv
theorem AgS.tail {w W : World} {x : Nat × Val.V} {L : List (Nat × Val.V)} (h : AgS w (x :: L) W) : AgS w L W := ⟨fun y hy => h.1 y (List.mem_cons_of_mem _ hy), h.2⟩
/-- what is done of the region that makes three pieces, in whatever order -/
def R9 (w : World) (L : List (Nat × Val.V)) (ws : Nat) (vs3 vs9 vs13 : List Val.V) (A B C N2 : Value) (b3 b4 b8 b9 b10 b13 b14 b15 b16 b17 : Bool) (x67 x68 x72 x73 x74 x77 x78 x8 x9 x10 : Value) (W : World) : Prop :=
  (AgS w L W ∧ ws ≤ W.heap.size) ∧ ((b4 = true → b3 = true) ∧ (b8 = true → b4 = true) ∧ (b9 = true → b8 = true) ∧ (b10 = true → b9 = true) ∧ (b14 = true → b13 = true) ∧ (b14 = true → b10 = true)) ∧ ((b3 = true → SlAt W x67 vs3) ∧ (b4 = true → x68 = A) ∧ (b8 = true → x72 = N2) ∧ (b9 = true → SlAt W x73 vs9) ∧ (b10 = true → x74 = B) ∧ (b13 = true → SlAt W x77 vs13) ∧ (b14 = true → x78 = C) ∧ (b15 = true → PtAt ws W x8) ∧ (b16 = true → PtAt ws W x9) ∧ (b17 = true → PtAt ws W x10)) ∧ ((b15 = true → b16 = true → x8 ≠ x9) ∧ (b15 = true → b17 = true → x8 ≠ x10) ∧ (b16 = true → b17 = true → x9 ≠ x10))
theorem R9.on {w : World} {L : List (Nat × Val.V)} {ws : Nat} {vs3 vs9 vs13 : List Val.V} {A B C N2 : Value} {b3 b4 b8 b9 b10 b13 b14 b15 b16 b17 : Bool} {x67 x68 x72 x73 x74 x77 x78 x8 x9 x10 : Value} {W W' : World} (h : R9 w L ws vs3 vs9 vs13 A B C N2 b3 b4 b8 b9 b10 b13 b14 b15 b16 b17 x67 x68 x72 x73 x74 x77 x78 x8 x9 x10 W) (hb : Below W.heap.size W W') : R9 w L ws vs3 vs9 vs13 A B C N2 b3 b4 b8 b9 b10 b13 b14 b15 b16 b17 x67 x68 x72 x73 x74 x77 x78 x8 x9 x10 W' := by
  obtain ⟨⟨h0, h1⟩, hF, ⟨f0, f1, f2, f3, f4, f5, f6, f7, f8, f9⟩, hN⟩ := h
  exact ⟨⟨h0.on hb, Nat.le_trans h1 hb.size⟩, hF, ⟨fun b => (f0 b).on hb, f1, f2, fun b => (f3 b).on hb, f4, fun b => (f5 b).on hb, f6, fun b => (f7 b).on hb, fun b => (f8 b).on hb, fun b => (f9 b).on hb⟩, hN⟩
theorem R9.s3 {w : World} {L : List (Nat × Val.V)} {ws : Nat} {vs3 vs9 vs13 : List Val.V} {A B C N2 : Value} {b4 b8 b9 b10 b13 b14 b15 b16 b17 : Bool} {x67 x68 x72 x73 x74 x77 x78 x8 x9 x10 : Value} {W W' : World} (h : R9 w L ws vs3 vs9 vs13 A B C N2 false b4 b8 b9 b10 b13 b14 b15 b16 b17 x67 x68 x72 x73 x74 x77 x78 x8 x9 x10 W) (hb : Below W.heap.size W W') {y : Value} (hx : SlAt W' y vs3) : R9 w L ws vs3 vs9 vs13 A B C N2 true b4 b8 b9 b10 b13 b14 b15 b16 b17 y x68 x72 x73 x74 x77 x78 x8 x9 x10 W' := by
  obtain ⟨⟨h0, h1⟩, ⟨e0, e1, e2, e3, e4, e5⟩, ⟨f0, f1, f2, f3, f4, f5, f6, f7, f8, f9⟩, ⟨n0, n1, n2⟩⟩ := h.on hb
  exact ⟨⟨h0, h1⟩, ⟨fun _ => rfl, e1, e2, e3, e4, e5⟩, ⟨fun _ => hx, f1, f2, f3, f4, f5, f6, f7, f8, f9⟩, ⟨n0, n1, n2⟩⟩
theorem R9.s4 {w : World} {L : List (Nat × Val.V)} {ws : Nat} {vs3 vs9 vs13 : List Val.V} {A B C N2 : Value} {b8 b9 b10 b13 b14 b15 b16 b17 : Bool} {x67 x68 x72 x73 x74 x77 x78 x8 x9 x10 : Value} {W W' : World} (h : R9 w L ws vs3 vs9 vs13 A B C N2 true false b8 b9 b10 b13 b14 b15 b16 b17 x67 x68 x72 x73 x74 x77 x78 x8 x9 x10 W) (hb : Below W.heap.size W W') : R9 w L ws vs3 vs9 vs13 A B C N2 true true b8 b9 b10 b13 b14 b15 b16 b17 x67 A x72 x73 x74 x77 x78 x8 x9 x10 W' := by
  obtain ⟨⟨h0, h1⟩, ⟨e0, e1, e2, e3, e4, e5⟩, ⟨f0, f1, f2, f3, f4, f5, f6, f7, f8, f9⟩, ⟨n0, n1, n2⟩⟩ := h.on hb
  exact ⟨⟨h0, h1⟩, ⟨fun _ => rfl, fun _ => rfl, e2, e3, e4, e5⟩, ⟨f0, fun _ => rfl, f2, f3, f4, f5, f6, f7, f8, f9⟩, ⟨n0, n1, n2⟩⟩
theorem R9.s8 {w : World} {L : List (Nat × Val.V)} {ws : Nat} {vs3 vs9 vs13 : List Val.V} {A B C N2 : Value} {b3 b9 b10 b13 b14 b15 b16 b17 : Bool} {x67 x68 x72 x73 x74 x77 x78 x8 x9 x10 : Value} {W W' : World} (h : R9 w L ws vs3 vs9 vs13 A B C N2 b3 true false b9 b10 b13 b14 b15 b16 b17 x67 x68 x72 x73 x74 x77 x78 x8 x9 x10 W) (hb : Below W.heap.size W W') : R9 w L ws vs3 vs9 vs13 A B C N2 b3 true true b9 b10 b13 b14 b15 b16 b17 x67 x68 N2 x73 x74 x77 x78 x8 x9 x10 W' := by
  obtain ⟨⟨h0, h1⟩, ⟨e0, e1, e2, e3, e4, e5⟩, ⟨f0, f1, f2, f3, f4, f5, f6, f7, f8, f9⟩, ⟨n0, n1, n2⟩⟩ := h.on hb
  exact ⟨⟨h0, h1⟩, ⟨e0, fun _ => rfl, fun _ => rfl, e3, e4, e5⟩, ⟨f0, f1, fun _ => rfl, f3, f4, f5, f6, f7, f8, f9⟩, ⟨n0, n1, n2⟩⟩
theorem R9.s9 {w : World} {L : List (Nat × Val.V)} {ws : Nat} {vs3 vs9 vs13 : List Val.V} {A B C N2 : Value} {b3 b4 b10 b13 b14 b15 b16 b17 : Bool} {x67 x68 x72 x73 x74 x77 x78 x8 x9 x10 : Value} {W W' : World} (h : R9 w L ws vs3 vs9 vs13 A B C N2 b3 b4 true false b10 b13 b14 b15 b16 b17 x67 x68 x72 x73 x74 x77 x78 x8 x9 x10 W) (hb : Below W.heap.size W W') {y : Value} (hx : SlAt W' y vs9) : R9 w L ws vs3 vs9 vs13 A B C N2 b3 b4 true true b10 b13 b14 b15 b16 b17 x67 x68 x72 y x74 x77 x78 x8 x9 x10 W' := by
  obtain ⟨⟨h0, h1⟩, ⟨e0, e1, e2, e3, e4, e5⟩, ⟨f0, f1, f2, f3, f4, f5, f6, f7, f8, f9⟩, ⟨n0, n1, n2⟩⟩ := h.on hb
  exact ⟨⟨h0, h1⟩, ⟨e0, e1, fun _ => rfl, fun _ => rfl, e4, e5⟩, ⟨f0, f1, f2, fun _ => hx, f4, f5, f6, f7, f8, f9⟩, ⟨n0, n1, n2⟩⟩
theorem R9.s10 {w : World} {L : List (Nat × Val.V)} {ws : Nat} {vs3 vs9 vs13 : List Val.V} {A B C N2 : Value} {b3 b4 b8 b13 b14 b15 b16 b17 : Bool} {x67 x68 x72 x73 x74 x77 x78 x8 x9 x10 : Value} {W W' : World} (h : R9 w L ws vs3 vs9 vs13 A B C N2 b3 b4 b8 true false b13 b14 b15 b16 b17 x67 x68 x72 x73 x74 x77 x78 x8 x9 x10 W) (hb : Below W.heap.size W W') : R9 w L ws vs3 vs9 vs13 A B C N2 b3 b4 b8 true true b13 b14 b15 b16 b17 x67 x68 x72 x73 B x77 x78 x8 x9 x10 W' := by
  obtain ⟨⟨h0, h1⟩, ⟨e0, e1, e2, e3, e4, e5⟩, ⟨f0, f1, f2, f3, f4, f5, f6, f7, f8, f9⟩, ⟨n0, n1, n2⟩⟩ := h.on hb
  exact ⟨⟨h0, h1⟩, ⟨e0, e1, e2, fun _ => rfl, e4, fun _ => rfl⟩, ⟨f0, f1, f2, f3, fun _ => rfl, f5, f6, f7, f8, f9⟩, ⟨n0, n1, n2⟩⟩
theorem R9.s13 {w : World} {L : List (Nat × Val.V)} {ws : Nat} {vs3 vs9 vs13 : List Val.V} {A B C N2 : Value} {b3 b4 b8 b9 b10 b14 b15 b16 b17 : Bool} {x67 x68 x72 x73 x74 x77 x78 x8 x9 x10 : Value} {W W' : World} (h : R9 w L ws vs3 vs9 vs13 A B C N2 b3 b4 b8 b9 b10 false b14 b15 b16 b17 x67 x68 x72 x73 x74 x77 x78 x8 x9 x10 W) (hb : Below W.heap.size W W') {y : Value} (hx : SlAt W' y vs13) : R9 w L ws vs3 vs9 vs13 A B C N2 b3 b4 b8 b9 b10 true b14 b15 b16 b17 x67 x68 x72 x73 x74 y x78 x8 x9 x10 W' := by
  obtain ⟨⟨h0, h1⟩, ⟨e0, e1, e2, e3, e4, e5⟩, ⟨f0, f1, f2, f3, f4, f5, f6, f7, f8, f9⟩, ⟨n0, n1, n2⟩⟩ := h.on hb
  exact ⟨⟨h0, h1⟩, ⟨e0, e1, e2, e3, fun _ => rfl, e5⟩, ⟨f0, f1, f2, f3, f4, fun _ => hx, f6, f7, f8, f9⟩, ⟨n0, n1, n2⟩⟩
theorem R9.s14 {w : World} {L : List (Nat × Val.V)} {ws : Nat} {vs3 vs9 vs13 : List Val.V} {A B C N2 : Value} {b3 b4 b8 b9 b15 b16 b17 : Bool} {x67 x68 x72 x73 x74 x77 x78 x8 x9 x10 : Value} {W W' : World} (h : R9 w L ws vs3 vs9 vs13 A B C N2 b3 b4 b8 b9 true true false b15 b16 b17 x67 x68 x72 x73 x74 x77 x78 x8 x9 x10 W) (hb : Below W.heap.size W W') : R9 w L ws vs3 vs9 vs13 A B C N2 b3 b4 b8 b9 true true true b15 b16 b17 x67 x68 x72 x73 x74 x77 C x8 x9 x10 W' := by
  obtain ⟨⟨h0, h1⟩, ⟨e0, e1, e2, e3, e4, e5⟩, ⟨f0, f1, f2, f3, f4, f5, f6, f7, f8, f9⟩, ⟨n0, n1, n2⟩⟩ := h.on hb
  exact ⟨⟨h0, h1⟩, ⟨e0, e1, e2, e3, fun _ => rfl, fun _ => rfl⟩, ⟨f0, f1, f2, f3, f4, f5, fun _ => rfl, f7, f8, f9⟩, ⟨n0, n1, n2⟩⟩
theorem R9.s15 {w : World} {L : List (Nat × Val.V)} {ws : Nat} {vs3 vs9 vs13 : List Val.V} {A B C N2 : Value} {b3 b4 b8 b9 b10 b13 b14 b16 b17 : Bool} {x67 x68 x72 x73 x74 x77 x78 x8 x9 x10 : Value} {W : World} (h : R9 w L ws vs3 vs9 vs13 A B C N2 b3 b4 b8 b9 b10 b13 b14 false b16 b17 x67 x68 x72 x73 x74 x77 x78 x8 x9 x10 W) : R9 w L ws vs3 vs9 vs13 A B C N2 b3 b4 b8 b9 b10 b13 b14 true b16 b17 x67 x68 x72 x73 x74 x77 x78 (.pointer (some ⟨W.heap.size, 0, none⟩)) x9 x10 (W.alloc (.cells #[.int .i64 0, .int .i64 0, .string ⟨#[]⟩] 25)) := by
  obtain ⟨⟨h0, h1⟩, ⟨e0, e1, e2, e3, e4, e5⟩, ⟨f0, f1, f2, f3, f4, f5, f6, f7, f8, f9⟩, ⟨n0, n1, n2⟩⟩ := h
  exact ⟨⟨h0.alloc _, by simp; omega⟩, ⟨e0, e1, e2, e3, e4, e5⟩, ⟨fun b => (f0 b).on (below_new W _), f1, f2, fun b => (f3 b).on (below_new W _), f4, fun b => (f5 b).on (below_new W _), f6, fun _ => PtAt.new ws W h1, fun b => (f8 b).on (below_new W _), fun b => (f9 b).on (below_new W _)⟩, ⟨fun _ b => ((f8 b).ne).symm, fun _ b => ((f9 b).ne).symm, n2⟩⟩
theorem R9.s16 {w : World} {L : List (Nat × Val.V)} {ws : Nat} {vs3 vs9 vs13 : List Val.V} {A B C N2 : Value} {b3 b4 b8 b9 b10 b13 b14 b15 b17 : Bool} {x67 x68 x72 x73 x74 x77 x78 x8 x9 x10 : Value} {W : World} (h : R9 w L ws vs3 vs9 vs13 A B C N2 b3 b4 b8 b9 b10 b13 b14 b15 false b17 x67 x68 x72 x73 x74 x77 x78 x8 x9 x10 W) : R9 w L ws vs3 vs9 vs13 A B C N2 b3 b4 b8 b9 b10 b13 b14 b15 true b17 x67 x68 x72 x73 x74 x77 x78 x8 (.pointer (some ⟨W.heap.size, 0, none⟩)) x10 (W.alloc (.cells #[.int .i64 0, .int .i64 0, .string ⟨#[]⟩] 25)) := by
  obtain ⟨⟨h0, h1⟩, ⟨e0, e1, e2, e3, e4, e5⟩, ⟨f0, f1, f2, f3, f4, f5, f6, f7, f8, f9⟩, ⟨n0, n1, n2⟩⟩ := h
  exact ⟨⟨h0.alloc _, by simp; omega⟩, ⟨e0, e1, e2, e3, e4, e5⟩, ⟨fun b => (f0 b).on (below_new W _), f1, f2, fun b => (f3 b).on (below_new W _), f4, fun b => (f5 b).on (below_new W _), f6, fun b => (f7 b).on (below_new W _), fun _ => PtAt.new ws W h1, fun b => (f9 b).on (below_new W _)⟩, ⟨fun b _ => (f7 b).ne, n1, fun _ b => ((f9 b).ne).symm⟩⟩
theorem R9.s17 {w : World} {L : List (Nat × Val.V)} {ws : Nat} {vs3 vs9 vs13 : List Val.V} {A B C N2 : Value} {b3 b4 b8 b9 b10 b13 b14 b15 b16 : Bool} {x67 x68 x72 x73 x74 x77 x78 x8 x9 x10 : Value} {W : World} (h : R9 w L ws vs3 vs9 vs13 A B C N2 b3 b4 b8 b9 b10 b13 b14 b15 b16 false x67 x68 x72 x73 x74 x77 x78 x8 x9 x10 W) : R9 w L ws vs3 vs9 vs13 A B C N2 b3 b4 b8 b9 b10 b13 b14 b15 b16 true x67 x68 x72 x73 x74 x77 x78 x8 x9 (.pointer (some ⟨W.heap.size, 0, none⟩)) (W.alloc (.cells #[.int .i64 0, .int .i64 0, .string ⟨#[]⟩] 25)) := by
  obtain ⟨⟨h0, h1⟩, ⟨e0, e1, e2, e3, e4, e5⟩, ⟨f0, f1, f2, f3, f4, f5, f6, f7, f8, f9⟩, ⟨n0, n1, n2⟩⟩ := h
  exact ⟨⟨h0.alloc _, by simp; omega⟩, ⟨e0, e1, e2, e3, e4, e5⟩, ⟨fun b => (f0 b).on (below_new W _), f1, f2, fun b => (f3 b).on (below_new W _), f4, fun b => (f5 b).on (below_new W _), f6, fun b => (f7 b).on (below_new W _), fun b => (f8 b).on (below_new W _), fun _ => PtAt.new ws W h1⟩, ⟨n0, fun b _ => (f7 b).ne, fun b _ => (f8 b).ne⟩⟩
def I9 (w : World) (L : List (Nat × Val.V)) (ws : Nat) (vs3 vs9 vs13 : List Val.V) (A B C N2 : Value) (a0 : Act) (listed : Array Bool) (a : Act) (W : World) : Prop :=
  ∃ (b3 b4 b8 b9 b10 b13 b14 b15 b16 b17 : Bool) (x67 x68 x72 x73 x74 x77 x78 x8 x9 x10 : Value), listed = #[true, true, true, b3, b4, true, true, true, b8, b9, b10, true, true, b13, b14, b15, b16, b17, false, false, false] ∧ a = ((((((((((a0.put (some 67) x67).put (some 68) x68).put (some 72) x72).put (some 73) x73).put (some 74) x74).put (some 77) x77).put (some 78) x78).put (some 8) x8).put (some 9) x9).put (some 10) x10) ∧ R9 w L ws vs3 vs9 vs13 A B C N2 b3 b4 b8 b9 b10 b13 b14 b15 b16 b17 x67 x68 x72 x73 x74 x77 x78 x8 x9 x10 W
theorem step_of {P : Program} {ops : Array Oper} {Q : Exit → Act → World → Prop} {i : Nat} {o : Oper} (ho : ops[i]? = some o) {R : Act → World → Prop} {a : Act} {w : World} (h : ∀ K' : Act → World → Prop, Shut (∀ a w, R a w → K' a w) → if Region.wanted o (yielded ops a.tmps) = true then Oper.wp P o a w K' Q else K' (a.put o.dst undef) w) : wpOp P ops Q i R a w :=
  wpOp_step ho fun K' hK => h K' hK
theorem ready_ne {md : Region.Mode} {ops : Array Oper} {listed : Array Bool} {i : Nat} (h : i ∈ Region.ready md ops listed) : Region.ready md ops listed ≠ [] := fun h0 => by rw [h0] at h; cases h
theorem getD_lt {l : Array Bool} {i : Nat} (h : l.getD i true = false) : i < l.size := by
  rcases Nat.lt_or_ge i l.size with h' | h'
  · exact h'
  · simp [Array.getD, Nat.not_lt.2 h'] at h

end Go.Proofs.YtmkgalcojoeniaaGreatDoor

