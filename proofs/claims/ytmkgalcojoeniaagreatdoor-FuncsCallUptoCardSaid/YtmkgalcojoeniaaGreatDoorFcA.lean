/- Walks: text, bytes, the functions of one text (package funcs). Walks: length, lower, upper, sign (package funcs). Walks: hex (package funcs). Walks: coalesce, iif, quote, typeof, nullif (package funcs). Walks: typeof, iif, instr, nullif, replace (package funcs). -/
import Derived.Test.YtmkgalcojoeniaaGreatDoorLkM
import Derived.Test.YtmkgalcojoeniaaGreatDoorFn3
import Derived.Test.YtmkgalcojoeniaaGreatDoorPrtIt
import Derived.Deep.RegionHeld3
import Derived.Test.YtmkgalcojoeniaaGreatDoorVals
import Derived.Test.YtmkgalcojoeniaaGreatDoorCmpW6
set_option maxRecDepth 100000
set_option linter.unusedVariables false
set_option linter.unusedSimpArgs false
namespace Go.Proofs.YtmkgalcojoeniaaGreatDoor
open Go.RowKit
attribute [local go_sem] run_store_fn run_store_nofn

theorem ptext_form (s : List UInt8) : (s.length ≤ 400 ∧ Val.ptext s = ⟨2, 0, s⟩) ∨ (400 < s.length ∧ Val.ptext s = ⟨0, 0, []⟩) := by
  unfold Val.ptext
  by_cases h : 400 < s.length
  · exact .inr ⟨h, by rw [if_pos h]; rfl⟩
  · exact .inl ⟨by omega, by rw [if_neg h]⟩
set_option maxHeartbeats 1000000 in
theorem ftext_is (s : ByteArray) (w : World) (k' : Int) (t' : ByteArray) (hv : Hid (Val.ptext s.data.toList = ⟨k', 0, t'.data.toList⟩)) : Calls Tryz.prog 86 #[.string s] w (VRet k' 0 t' w) := by
  have hb0 := below_new w (.cells #[.int .i64 0, .int .i64 0, .string ⟨#[]⟩] 25)
  have hv0 := V3.new w 0 0 ⟨#[]⟩
  rcases ptext_form s.data.toList with ⟨hl, h2⟩ | ⟨hl, h2⟩
  · have he := hv.out.symm.trans h2
    injection he with e1 e2 e3
    subst e1
    obtain rfl : t' = s := by rw [← bs_of t', ← bs_of s, e3]
    clear e2 e3 h2 hv
    go_enter Tryz.func86, Tryz.ntmps86
    go_wp2_with (go_at_call 130; refine (vtext_ok _ _ hl).mono ?_; rintro e w1 ⟨rfl, hb1⟩; have hv1 := (hv0.on hb1).alloc (.cells #[.int .i64 2, .int .i64 0, .string t'] 25); obtain ⟨a0, a1, a2, a3, a4, a5⟩ := hv1.cells)
    exact bodyPost_ret (v := .agg #[.int .i64 2, .int .i64 0, .string t']) (by simp only [results, Tryz.results86]; go_simp) rfl ⟨rfl, below_put ((hb0.trans (hb1.mono hb0.size)).alloc (by have := hb0.size; have := hb1.size; omega) _) (Nat.le_refl _)⟩
  · have he := hv.out.symm.trans h2
    injection he with e1 e2 e3
    subst e1
    obtain rfl : t' = ⟨#[]⟩ := by rw [← bs_of t', e3]; rfl
    clear e2 e3 h2 hv
    go_enter Tryz.func86, Tryz.ntmps86
    go_wp2_with (go_at_call 130; refine (vtext_long _ _ hl).mono ?_; rintro e w1 ⟨rfl, hb1⟩; have hv1 := (hv0.on hb1).alloc (.cells #[.int .i64 0, .int .i64 0, .string ⟨#[]⟩] 25); obtain ⟨a0, a1, a2, a3, a4, a5⟩ := hv1.cells)
    exact bodyPost_ret (v := .agg #[.int .i64 0, .int .i64 0, .string ⟨#[]⟩]) (by simp only [results, Tryz.results86]; go_simp) rfl ⟨rfl, below_put ((hb0.trans (hb1.mono hb0.size)).alloc (by have := hb0.size; have := hb1.size; omega) _) (Nat.le_refl _)⟩

theorem fbytes_is (k n : Int) (t : ByteArray) (w : World) (hi : Val.inr n) (hL : Lits w) (k' : Int) (t' : ByteArray) (hv : Hid (Val.pshow ⟨k, n, t.data.toList⟩ = ⟨k', 0, t'.data.toList⟩)) :
    Calls Tryz.prog 83 #[.agg #[.int .i64 k, .int .i64 n, .string t]] w fun e w' => e = .returned (.string t') ∧ Below w.heap.size w w' := by
  have hb0 := below_new w (.cells #[.int .i64 k, .int .i64 n, .string t] 25)
  have hf : ∀ W : World, (Instr.field 25 (.agg #[.int .i64 k', .int .i64 0, .string t']) 2).run Tryz.prog W = .ok (.string t') W := fun W => by kernel_rfl
  have hih := Lib.hid hi
  clear hi
  go_enter Tryz.func83, Tryz.ntmps83
  go_wp2_with (go_at_call 104; refine (cshow_is _ _ _ _ hih.out.1 hih.out.2 (hL.alloc _) _ _ hv).mono ?_; rintro e w1 ⟨rfl, hb1⟩)
  go_ret
  exact ⟨rfl, hb0.trans (hb1.mono hb0.size)⟩

/-- the text of a value -/
def shown (v : Val.V) : List UInt8 := (Val.pshow v).text
theorem shown_some {v : Val.V} (h : Val.may v = true) (h0 : v.kind ≠ 0) (hi : Val.inr v.int) : ∃ t : ByteArray, Val.pshow v = ⟨2, 0, t.data.toList⟩ ∧ t.size ≤ 400 ∧ shown v = t.data.toList := by
  rcases pshow_form v hi with h1 | ⟨t, h1, h2⟩
  · exfalso
    by_cases hk : v.kind = 1
    · rw [Val.pshow_int h hk] at h1; injection h1 with e; cases e
    · rw [Val.pshow_text h h0 hk] at h1; injection h1 with e; cases e
  · exact ⟨t, h1, h2, by unfold shown; rw [h1]⟩

end Go.Proofs.YtmkgalcojoeniaaGreatDoor

namespace Go.Proofs.YtmkgalcojoeniaaGreatDoor
open Go.RowKit

def upper (c : UInt8) : UInt8 := if 97 ≤ c.toNat ∧ c.toNat ≤ 122 then UInt8.ofNat (c.toNat - 32) else c
theorem upper_up {c : UInt8} (h : 97 ≤ c.toNat ∧ c.toNat ≤ 122) : (upper c).toNat = c.toNat - 32 := by rw [upper, if_pos h]; simp; omega
theorem upper_no {c : UInt8} (h : ¬ (97 ≤ c.toNat ∧ c.toNat ≤ 122)) : upper c = c := by rw [upper, if_neg h]

set_option maxHeartbeats 1000000 in
theorem fold_up (s : ByteArray) (w : World) (hs : s.size ≤ 1048576) : Calls Tryz.prog 47 #[.string s, .int .u8 97, .int .u8 65] w fun e w' => e = .returned (.string (bs (s.data.toList.map upper))) ∧ Below w.heap.size w w' := by
  have hcv : ∀ W : World, (convert 9 99 (.string s)).run Tryz.prog W = .ok (.slice (some ⟨W.heap.size, 0, none⟩) s.size (grownCap W s.size 0 5)) (W.drew.alloc (.cells (bytesRow s (grownCap W s.size 0 5)) 5 ((bytesRow s (grownCap W s.size 0 5)).size, (bytesRow s (grownCap W s.size 0 5)).size + 1))) := fun W => run_bytes_of_string W _ _ _ s Tryz.underlying9 Tryz.underlying99 Tryz.underlying5
  have hsz : s.data.toList.length = s.size := rfl
  obtain ⟨cap, hcap⟩ : ∃ cap, grownCap w s.size 0 5 = cap := ⟨_, rfl⟩
  have hge : s.size ≤ cap := by rw [← hcap]; exact grownCap_ge w s.size 0 5
  obtain ⟨W0, hW0⟩ : ∃ W0, w.drew.alloc (.cells (bytesRow s cap) 5 ((bytesRow s cap).size, (bytesRow s cap).size + 1)) = W0 := ⟨_, rfl⟩
  have hB0 : Below w.heap.size w W0 := by rw [← hW0]; exact (Below.refl _ w).drew.alloc (Nat.le_refl _) _
  have hR0 : RowB W0 w.heap.size s.data.toList := by
    have hh : W0.heap[w.heap.size]? = some (.cells (bytesRow s cap) 5 ((bytesRow s cap).size, (bytesRow s cap).size + 1)) := by rw [← hW0]; exact heap_new w.drew _
    refine ⟨(Array.getElem?_eq_some_iff.1 hh).1, fun j hj => ⟨?_, ?_⟩⟩
    · rw [cell_of_row _ _ j _ _ _ hh, bytesRow_at s cap j hj]; rfl
    · have hb := bytesRow_at s cap j hj
      have := (Array.getElem?_eq_some_iff.1 hb).1
      simp [World.frozen?, hh]; omega
  go_enter Tryz.func47, Tryz.ntmps47
  go_wp2
  go_loopw [14] (fun iv wr => ∃ k : Nat, iv = .int .i64 (k : Int) ∧ k ≤ s.size ∧ Hid (RowB wr w.heap.size ((s.data.toList.take k).map upper ++ s.data.toList.drop k)) ∧ Below w.heap.size w wr) (fun iv _ => s.size - (Go.RowKit.intOf iv).toNat)
  case atStart => exact ⟨0, by go_num, by omega, Lib.hid (by simpa using hR0), hB0⟩
  case round =>
    obtain ⟨k, rfl, hk, hR, hB⟩ := hrel
    by_cases hlt : k < s.size
    · obtain ⟨hk2, hat⟩ := map_at upper (l := s.data.toList) (k := k) hlt
      obtain ⟨c0, f0⟩ := hR.out.2 k hk2
      rw [hat] at c0
      have hlB : decide ((k : Int) < (s.size : Int)) = true := by simp; omega
      have i0 : (0 : Int) ≤ (k : Int) := by omega
      have i1 : (k : Int) < (s.size : Int) := by omega
      obtain ⟨c, hc⟩ : ∃ c, s.data.toList[k] = c := ⟨_, rfl⟩
      rw [hc] at c0
      have hcl := c.toNat_lt
      by_cases hu : 97 ≤ c.toNat ∧ c.toNat ≤ 122
      · have b1 : decide ((c.toNat : Int) ≥ 97) = true := by simp; omega
        have b2 : decide ((c.toNat : Int) < 123) = true := by simp; omega
        have e1 : IntKind.u8.wrap ((c.toNat : Int) - 97) = (c.toNat : Int) - 97 := by simp [IntKind.wrap, IntKind.bits, IntKind.signed]; omega
        have e2 : IntKind.u8.wrap ((c.toNat : Int) - 97 + 65) = ((upper c).toNat : Int) := by rw [upper_up hu]; simp [IntKind.wrap, IntKind.bits, IntKind.signed]; omega
        have hR2 : RowB (wr.setCell ⟨w.heap.size, k, none⟩ (.int .u8 ((upper c).toNat : Int))) w.heap.size ((s.data.toList.take (k + 1)).map upper ++ s.data.toList.drop (k + 1)) := by
          rw [← map_next upper hlt, hc]; exact hR.out.set k _
        replace hR2 := Lib.hid hR2
        clear hR hat hk2 hu hc
        generalize (upper c).toNat = m at *
        go_wp2
        go_roundw
        case rel => exact ⟨k + 1, by go_num, by omega, hR2, hB.setCell (Nat.le_refl _) _⟩
        case measure => simp [Go.RowKit.intOf]; omega
      · have hR2 : RowB wr w.heap.size ((s.data.toList.take (k + 1)).map upper ++ s.data.toList.drop (k + 1)) := by
          rw [← map_same upper hlt (by rw [hc]; exact upper_no hu)]; exact hR.out
        replace hR2 := Lib.hid hR2
        clear hR hat hk2 hc
        by_cases h65 : 97 ≤ c.toNat
        · have b1 : decide ((c.toNat : Int) ≥ 97) = true := by simp; omega
          have b2 : decide ((c.toNat : Int) < 123) = false := by simp; omega
          clear hu
          go_wp2
          go_roundw
          case rel => exact ⟨k + 1, by go_num, by omega, hR2, hB⟩
          case measure => simp [Go.RowKit.intOf]; omega
        · have b1 : decide ((c.toNat : Int) ≥ 97) = false := by simp; omega
          clear hu
          go_wp2
          go_roundw
          case rel => exact ⟨k + 1, by go_num, by omega, hR2, hB⟩
          case measure => simp [Go.RowKit.intOf]; omega
    · obtain rfl : k = s.size := by omega
      have hR2 : RowB wr w.heap.size (s.data.toList.map upper) := by
        have := hR.out
        rwa [List.take_of_length_le (by omega), List.drop_eq_nil_of_le (by omega), List.append_nil] at this
      have hst : ∀ cap, (convert 99 9 (.slice (some ⟨w.heap.size, 0, none⟩) s.size cap)).run Tryz.prog wr = .ok (.string (bs (s.data.toList.map upper))) wr := fun cap => row_string hR2 (by simp)
      clear hR2 hR
      generalize hRR : bs (s.data.toList.map upper) = R at hst
      replace hRR := Lib.hid hRR
      go_wp2
      go_ret
      exact ⟨by rw [hRR.out]; rfl, hB⟩


/-- a value's text as a function of one text sees it -/
theorem flen_is (k n : Int) (t : ByteArray) (w : World) (hi : Val.inr n) (hL : Lits w) (s : ByteArray) (hv : Hid (Val.pshow ⟨k, n, t.data.toList⟩ = ⟨2, 0, s.data.toList⟩)) :
    Calls Tryz.prog 84 #[.agg #[.int .i64 k, .int .i64 n, .string t]] w (VRet 1 (s.size : Int) ⟨#[]⟩ w) := by
  have hv0 := V3.new w k n t
  have hS0 := hv0.alloc (.cells #[.int .i64 0, .int .i64 0, .string ⟨#[]⟩] 25)
  have hR0 := V3.new (w.alloc (.cells #[.int .i64 k, .int .i64 n, .string t] 25)) 0 0 ⟨#[]⟩
  rw [World.size_alloc] at hR0
  have hb0 := ((Below.refl _ w).alloc (Nat.le_refl _) (.cells #[.int .i64 k, .int .i64 n, .string t] 25)).alloc (by simp) (.cells #[.int .i64 0, .int .i64 0, .string ⟨#[]⟩] 25)
  obtain ⟨a0, a1, a2, a3, a4, a5⟩ := hS0.cells
  go_enter Tryz.func84, Tryz.ntmps84
  go_wp2_with (first
    | (go_at_call 83; refine (fbytes_is _ _ _ _ hi ((hL.alloc _).alloc _) _ _ hv).mono ?_; rintro e w1 ⟨rfl, hb1⟩)
    | (go_at_call 81; refine (vint_any _ _).mono ?_; rintro e w2 ⟨rfl, hb2⟩; have hR2 := (hR0.on hb1).on hb2; obtain ⟨b0, b1, b2, b3, b4, b5⟩ := hR2.cells))
  exact bodyPost_ret (v := .agg #[.int .i64 1, .int .i64 (s.size : Int), .string ⟨#[]⟩]) (by simp only [results, Tryz.results84]; go_simp) rfl ⟨rfl, below_put (below_step (below_step hb0 hb0.size hb1) (below_step hb0 hb0.size hb1).size hb2) (by omega)⟩

theorem flower_is (k n : Int) (t : ByteArray) (w : World) (hi : Val.inr n) (hL : Lits w) (s : ByteArray) (hs : s.size ≤ 400) (hv : Hid (Val.pshow ⟨k, n, t.data.toList⟩ = ⟨2, 0, s.data.toList⟩)) (r : ByteArray) (hr : Hid (bs (s.data.toList.map Txt.lower) = r)) :
    Calls Tryz.prog 85 #[.agg #[.int .i64 k, .int .i64 n, .string t]] w (VRet 2 0 r w) := by
  have hv0 := V3.new w k n t
  have hS0 := hv0.alloc (.cells #[.int .i64 0, .int .i64 0, .string ⟨#[]⟩] 25)
  have hR0 := V3.new (w.alloc (.cells #[.int .i64 k, .int .i64 n, .string t] 25)) 0 0 ⟨#[]⟩
  rw [World.size_alloc] at hR0
  have hb0 := ((Below.refl _ w).alloc (Nat.le_refl _) (.cells #[.int .i64 k, .int .i64 n, .string t] 25)).alloc (by simp) (.cells #[.int .i64 0, .int .i64 0, .string ⟨#[]⟩] 25)
  have hrl : r.data.toList.length ≤ 400 := by rw [← hr.out, bs_data, List.length_map]; exact hs
  have hx : Val.ptext r.data.toList = ⟨2, 0, r.data.toList⟩ := by unfold Val.ptext; rw [if_neg (by omega)]
  have hf : ∀ W : World, Calls Tryz.prog 47 #[.string s, .int .u8 65, .int .u8 97] W fun e w' => e = .returned (.string (bs (s.data.toList.map Txt.lower))) ∧ Below W.heap.size W w' := fun W => fold_low s W (by omega)
  rw [hr.out] at hf
  obtain ⟨a0, a1, a2, a3, a4, a5⟩ := hS0.cells
  replace hx := Lib.hid hx
  replace hf := Lib.hid hf
  replace hi := Lib.hid hi
  clear hr hrl hs
  go_enter Tryz.func85, Tryz.ntmps85
  go_wp2_with (first
    | (go_at_call 83; refine (fbytes_is _ _ _ _ hi.out ((hL.alloc _).alloc _) _ _ hv).mono ?_; rintro e w1 ⟨rfl, hb1⟩)
    | (go_at_call 47; refine (hf.out _).mono ?_; rintro e w2 ⟨rfl, hb2⟩)
    | (go_at_call 86; refine (ftext_is _ _ _ _ hx).mono ?_; rintro e w3 ⟨rfl, hb3⟩; have hR2 := ((hR0.on hb1).on hb2).on hb3; obtain ⟨b0, b1, b2, b3, b4, b5⟩ := hR2.cells))
  have hB := below_step (below_step hb0 hb0.size hb1) (below_step hb0 hb0.size hb1).size hb2
  exact bodyPost_ret (v := .agg #[.int .i64 2, .int .i64 0, .string r]) (by simp only [results, Tryz.results85]; go_simp) rfl ⟨rfl, below_put (below_step hB hB.size hb3) (by omega)⟩

theorem fupper_is (k n : Int) (t : ByteArray) (w : World) (hi : Val.inr n) (hL : Lits w) (s : ByteArray) (hs : s.size ≤ 400) (hv : Hid (Val.pshow ⟨k, n, t.data.toList⟩ = ⟨2, 0, s.data.toList⟩)) (r : ByteArray) (hr : Hid (bs (s.data.toList.map upper) = r)) :
    Calls Tryz.prog 97 #[.agg #[.int .i64 k, .int .i64 n, .string t]] w (VRet 2 0 r w) := by
  have hv0 := V3.new w k n t
  have hS0 := hv0.alloc (.cells #[.int .i64 0, .int .i64 0, .string ⟨#[]⟩] 25)
  have hR0 := V3.new (w.alloc (.cells #[.int .i64 k, .int .i64 n, .string t] 25)) 0 0 ⟨#[]⟩
  rw [World.size_alloc] at hR0
  have hb0 := ((Below.refl _ w).alloc (Nat.le_refl _) (.cells #[.int .i64 k, .int .i64 n, .string t] 25)).alloc (by simp) (.cells #[.int .i64 0, .int .i64 0, .string ⟨#[]⟩] 25)
  have hrl : r.data.toList.length ≤ 400 := by rw [← hr.out, bs_data, List.length_map]; exact hs
  have hx : Val.ptext r.data.toList = ⟨2, 0, r.data.toList⟩ := by unfold Val.ptext; rw [if_neg (by omega)]
  have hf : ∀ W : World, Calls Tryz.prog 47 #[.string s, .int .u8 97, .int .u8 65] W fun e w' => e = .returned (.string (bs (s.data.toList.map upper))) ∧ Below W.heap.size W w' := fun W => fold_up s W (by omega)
  rw [hr.out] at hf
  obtain ⟨a0, a1, a2, a3, a4, a5⟩ := hS0.cells
  replace hx := Lib.hid hx
  replace hf := Lib.hid hf
  replace hi := Lib.hid hi
  clear hr hrl hs
  go_enter Tryz.func97, Tryz.ntmps97
  go_wp2_with (first
    | (go_at_call 83; refine (fbytes_is _ _ _ _ hi.out ((hL.alloc _).alloc _) _ _ hv).mono ?_; rintro e w1 ⟨rfl, hb1⟩)
    | (go_at_call 47; refine (hf.out _).mono ?_; rintro e w2 ⟨rfl, hb2⟩)
    | (go_at_call 86; refine (ftext_is _ _ _ _ hx).mono ?_; rintro e w3 ⟨rfl, hb3⟩; have hR2 := ((hR0.on hb1).on hb2).on hb3; obtain ⟨b0, b1, b2, b3, b4, b5⟩ := hR2.cells))
  have hB := below_step (below_step hb0 hb0.size hb1) (below_step hb0 hb0.size hb1).size hb2
  exact bodyPost_ret (v := .agg #[.int .i64 2, .int .i64 0, .string r]) (by simp only [results, Tryz.results97]; go_simp) rfl ⟨rfl, below_put (below_step hB hB.size hb3) (by omega)⟩

/-- a number's sign -/
def signV (v : Val.V) : Val.V := if 0 < (Val.num v).int then ⟨1, 1, []⟩ else if (Val.num v).int < 0 then ⟨1, -1, []⟩ else Val.num v
set_option maxHeartbeats 1000000 in
theorem sign_pos (k n : Int) (t : ByteArray) (k1 n1 : Int) (w : World) (hL : Lits w) (hv : Hid (Val.num ⟨k, n, t.data.toList⟩ = ⟨k1, n1, []⟩)) (h1 : 0 < n1) :
    Calls Tryz.prog 94 #[.agg #[.int .i64 k, .int .i64 n, .string t]] w (VRet 1 1 ⟨#[]⟩ w) := by
  have hS := start2 w (.int .i64 k) (.int .i64 n) (.string t) (.int .i64 0) (.int .i64 0) (.string ⟨#[]⟩) 25 25
  have b1 : decide (n1 > 0) = true := decide_eq_true h1
  go_enter Tryz.func94, Tryz.ntmps94
  go_wp2_with (first
    | (go_at_call 127; refine (cnum_is _ _ _ _ ((hL.alloc _).alloc _) _ _ hv).mono ?_; rintro e w1 ⟨rfl, hb1⟩; have hS2 := keep2 (keep2 hS hb1) (below_new w1 (.cells #[.int .i64 k1, .int .i64 n1, .string ⟨#[]⟩] 25)); obtain ⟨ca0, ca1, ca2, ca3, ca4, ca5, ca6, ca7, ca8, ca9, ca10, ca11, hz, hB⟩ := id hS2)
    | (go_at_call 81; refine (vint_any _ _).mono ?_; rintro e w2 ⟨rfl, hb2⟩; have hS3 := keep2 hS2 hb2; obtain ⟨cb0, cb1, cb2, cb3, cb4, cb5, cb6, cb7, cb8, cb9, cb10, cb11, hz, hB⟩ := id hS3))
  exact bodyPost_ret (v := .agg #[.int .i64 1, .int .i64 1, .string ⟨#[]⟩]) (by simp only [results, Tryz.results94]; go_simp) rfl ⟨rfl, below_setg hB (by omega)⟩
set_option maxHeartbeats 1000000 in
theorem sign_neg (k n : Int) (t : ByteArray) (k1 n1 : Int) (w : World) (hL : Lits w) (hv : Hid (Val.num ⟨k, n, t.data.toList⟩ = ⟨k1, n1, []⟩)) (h1 : n1 < 0) :
    Calls Tryz.prog 94 #[.agg #[.int .i64 k, .int .i64 n, .string t]] w (VRet 1 (-1) ⟨#[]⟩ w) := by
  have hS := start2 w (.int .i64 k) (.int .i64 n) (.string t) (.int .i64 0) (.int .i64 0) (.string ⟨#[]⟩) 25 25
  have b1 : decide (n1 > 0) = false := decide_eq_false (by omega)
  have b2 : decide (n1 < 0) = true := decide_eq_true h1
  go_enter Tryz.func94, Tryz.ntmps94
  go_wp2_with (first
    | (go_at_call 127; refine (cnum_is _ _ _ _ ((hL.alloc _).alloc _) _ _ hv).mono ?_; rintro e w1 ⟨rfl, hb1⟩; have hS2 := keep2 (keep2 hS hb1) (below_new w1 (.cells #[.int .i64 k1, .int .i64 n1, .string ⟨#[]⟩] 25)); obtain ⟨ca0, ca1, ca2, ca3, ca4, ca5, ca6, ca7, ca8, ca9, ca10, ca11, hz, hB⟩ := id hS2)
    | (go_at_call 81; refine (vint_any _ _).mono ?_; rintro e w2 ⟨rfl, hb2⟩; have hS3 := keep2 hS2 hb2; obtain ⟨cb0, cb1, cb2, cb3, cb4, cb5, cb6, cb7, cb8, cb9, cb10, cb11, hz, hB⟩ := id hS3))
  exact bodyPost_ret (v := .agg #[.int .i64 1, .int .i64 (-1), .string ⟨#[]⟩]) (by simp only [results, Tryz.results94]; go_simp) rfl ⟨rfl, below_setg hB (by omega)⟩
set_option maxHeartbeats 1000000 in
theorem sign_zero (k n : Int) (t : ByteArray) (k1 : Int) (w : World) (hL : Lits w) (hv : Hid (Val.num ⟨k, n, t.data.toList⟩ = ⟨k1, 0, []⟩))  :
    Calls Tryz.prog 94 #[.agg #[.int .i64 k, .int .i64 n, .string t]] w (VRet k1 0 ⟨#[]⟩ w) := by
  have hS := start2 w (.int .i64 k) (.int .i64 n) (.string t) (.int .i64 0) (.int .i64 0) (.string ⟨#[]⟩) 25 25
  go_enter Tryz.func94, Tryz.ntmps94
  go_wp2_with (first
    | (go_at_call 127; refine (cnum_is _ _ _ _ ((hL.alloc _).alloc _) _ _ hv).mono ?_; rintro e w1 ⟨rfl, hb1⟩; have hS2 := keep2 (keep2 hS hb1) (below_new w1 (.cells #[.int .i64 k1, .int .i64 0, .string ⟨#[]⟩] 25)); obtain ⟨ca0, ca1, ca2, ca3, ca4, ca5, ca6, ca7, ca8, ca9, ca10, ca11, hz, hB⟩ := id hS2)
    | (go_at_call 81; refine (vint_any _ _).mono ?_; rintro e w2 ⟨rfl, hb2⟩; have hS3 := keep2 hS2 hb2; obtain ⟨cb0, cb1, cb2, cb3, cb4, cb5, cb6, cb7, cb8, cb9, cb10, cb11, hz, hB⟩ := id hS3))
  exact bodyPost_ret (v := .agg #[.int .i64 k1, .int .i64 0, .string ⟨#[]⟩]) (by simp only [results, Tryz.results94]; go_simp) rfl ⟨rfl, below_setg hB (by omega)⟩
theorem sign_is (k n : Int) (t : ByteArray) (w : World) (hL : Lits w) (hi : Val.inr n) (k' n' : Int) (hv : Hid (signV ⟨k, n, t.data.toList⟩ = ⟨k', n', []⟩)) :
    Calls Tryz.prog 94 #[.agg #[.int .i64 k, .int .i64 n, .string t]] w (VRet k' n' ⟨#[]⟩ w) := by
  have hv' := hv.out
  unfold signV at hv'
  obtain ⟨k1, n1, h1⟩ : ∃ k1 n1, Val.num ⟨k, n, t.data.toList⟩ = ⟨k1, n1, []⟩ := by
    rcases Val.num_cases (v := ⟨k, n, t.data.toList⟩) hi with h | ⟨m, h, _⟩
    · exact ⟨_, _, h⟩
    · exact ⟨_, _, h⟩
  rw [h1] at hv'
  simp only at hv'
  by_cases hp : 0 < n1
  · rw [if_pos hp] at hv'; cases hv'; exact sign_pos k n t k1 n1 w hL (Lib.hid h1) hp
  · rw [if_neg hp] at hv'
    by_cases hm : n1 < 0
    · rw [if_pos hm] at hv'; cases hv'; exact sign_neg k n t k1 n1 w hL (Lib.hid h1) hm
    · rw [if_neg hm] at hv'
      obtain rfl : n1 = 0 := by omega
      cases hv'
      exact sign_zero k n t _ w hL (Lib.hid h1)
/-- abs, joined -/
theorem abs_is (k n : Int) (t : ByteArray) (w : World) (hL : Lits w) (hi : Val.inr n) (k' n' : Int) (hv : Hid (absV ⟨k, n, t.data.toList⟩ = ⟨k', n', []⟩)) :
    Calls Tryz.prog 75 #[.agg #[.int .i64 k, .int .i64 n, .string t]] w (VRet k' n' ⟨#[]⟩ w) := by
  have hv' := hv.out
  unfold absV at hv'
  rcases Val.num_cases (v := ⟨k, n, t.data.toList⟩) hi with h1 | ⟨m, h1, hm0, hm1⟩
  · rw [h1, if_pos (by decide)] at hv'
    cases hv'
    exact abs_pos k n t 0 0 w hL (Lib.hid h1) (by decide)
  · rw [h1] at hv'
    simp only at hv'
    by_cases hp : 0 ≤ m
    · rw [if_pos hp] at hv'; cases hv'; exact abs_pos k n t 1 n' w hL (Lib.hid h1) hp
    · rw [if_neg hp] at hv'
      exact abs_neg k n t 1 m k' n' ⟨#[]⟩ (Val.unary 4 ⟨1, m, []⟩).2 w hL ⟨hm0, hm1⟩ (Lib.hid h1) (by omega) (Lib.hid (Prod.ext hv' rfl))

end Go.Proofs.YtmkgalcojoeniaaGreatDoor

namespace Go.Proofs.YtmkgalcojoeniaaGreatDoor
open Go.RowKit

theorem and15 : ∀ n : Nat, n < 256 → bits BinOp.and IntKind.u8 (n : Int) 15 = ((n % 16 : Nat) : Int) := by decide +kernel
def hexDs : List UInt8 := [48, 49, 50, 51, 52, 53, 54, 55, 56, 57, 65, 66, 67, 68, 69, 70]
def digU (n : Nat) : UInt8 := hexDs.getD n 0
theorem index_hex (k : Nat) (h : k < 16) (W : World) : (Instr.index 9 (.string ⟨#[48, 49, 50, 51, 52, 53, 54, 55, 56, 57, 65, 66, 67, 68, 69, 70]⟩) (.int .u8 (k : Int))).run Tryz.prog W = .ok (.int .u8 ((digU k).toNat : Int)) W := by
  have e : ∀ k, k < 16 → ∀ h : k < (⟨#[48, 49, 50, 51, 52, 53, 54, 55, 56, 57, 65, 66, 67, 68, 69, 70]⟩ : ByteArray).size, (⟨#[48, 49, 50, 51, 52, 53, 54, 55, 56, 57, 65, 66, 67, 68, 69, 70]⟩ : ByteArray)[k] = digU k := by decide +kernel
  have i0 : (0 : Int) ≤ (k : Int) := by omega
  have i1 : (k : Int) < 16 := by omega
  go_simp
/-- bytes as digits to the base 16 -/
def hexU (l : List UInt8) : List UInt8 := l.flatMap fun c => [digU (c.toNat / 16), digU (c.toNat % 16)]
theorem hexU_snoc (l : List UInt8) (c : UInt8) : hexU (l ++ [c]) = hexU l ++ [digU (c.toNat / 16), digU (c.toNat % 16)] := by simp [hexU]
theorem hexU_len (l : List UInt8) : (hexU l).length = 2 * l.length := by
  induction l with
  | nil => rfl
  | cons c l ih => simp only [hexU, List.flatMap_cons, List.length_append, List.length_cons, List.length_nil] at ih ⊢; omega
theorem u8_two (a b : Int) : ∀ u ∈ (#[Value.int .u8 a, Value.int .u8 b] : Array Value).toList, u.oneCell' = true := by intro u hu; simp at hu; rcases hu with rfl | rfl <;> rfl
/-- several elements appended to an own row, as one operation of a drawn region -/
theorem step_pushM {P : Program} {W : World} {nz : Nat} (hnz : W.heap.size = nz) {ops : Array Oper} {o : Oper} {a : Act} {K : Act → World → Prop} {Q : Exit → Act → World → Prop} {E : Prop} (hgd : o.guard = none) (s x : Operand) (t : TypeId)
    (ho : o.op = .call { callee := .builtin .append, args := #[s, x], argTypes := #[t, t] }) (m : Nat)
    (base : Nat) (e : TypeId) {z : Value} {size bytes : Nat} (ht : P.underlying t = some (.slice e)) (hinfo : (P.info? e).map (fun i => (i.zero, i.size, i.bytes)) = some (some z, size, bytes))
    (hzs : z.cells.size = size) (hsz : 0 < size)
    (v : Value) (n : Nat) (xs : List Value) (hs : a.eval s = v) (hown : W.ownsRow base e size v n xs)
    (cs : Array Value) (hx : a.eval x = .slice (some ⟨nz, 0, none⟩) m m) (hl : cs.size = m * size) (h1 : ∀ u ∈ cs.toList, u.oneCell' = true) (hm : 0 < m)
    (hbytes : (n + m) * bytes ≤ 140737488355328) (hb0 : 0 < bytes) (hbase : base ≤ W.heap.size)
    (h : ∀ v' w1, w1.ownsRow base e size v' (n + m) (xs ++ cs.toList) → Below base W w1 → K (a.put o.dst v') w1) :
    if Region.wanted o (yielded ops a.tmps) = true then Oper.wp P o a (W.alloc (.cells cs e)) K Q else E := by
  subst hnz
  obtain ⟨i, hi, hz, hsize, hby⟩ := info_parts hinfo
  have hn : n + m ≤ 140737488355328 := Nat.le_trans (Nat.le_mul_of_pos_right _ hb0) hbytes
  refine step_append_lies _ hgd s x t ho base e i z size bytes ht hi hz hsize hby hzs hsz v n xs hs (hown.alloc _) ⟨W.heap.size, 0, none⟩ m m cs.toList hx (by simpa using hl) ?_ h1 (by omega) (by simp only [maxLen]; omega) hbytes (by simp; omega) (W.heap.size + 1) (by simp) ?_
  · intro j u hu
    have hj : (⟨W.heap.size, 0, none⟩ : Addr).add j = ⟨W.heap.size, j, none⟩ := by rw [Addr.add_lit]; simp
    rw [hj, World.cell?_alloc_at _ _ _ _ rfl]
    simpa using hu
  · intro g cap w1 hown' hg _ _
    refine h _ w1 hown' ?_
    have hg' : W.grownBy w1 v.ownBlock := ⟨hg.os, hg.tape, hg.output, Nat.le_trans (by simp) hg.size, fun k hk hne => (hg.block k (by simp; omega) hne).trans (Below.heap_alloc W _ k hk)⟩
    exact (Below.refl base W).grown hg' hbase fun k hk => (hown.lt k hk).1

set_option maxHeartbeats 4000000 in
theorem fhex_is (k n : Int) (t : ByteArray) (w : World) (hi : Val.inr n) (hL : Lits w) (s : ByteArray) (hs : s.size ≤ 400) (hv : Hid (Val.pshow ⟨k, n, t.data.toList⟩ = ⟨2, 0, s.data.toList⟩)) (k' : Int) (r : ByteArray) (hr : Hid (Val.ptext (hexU s.data.toList) = ⟨k', 0, r.data.toList⟩)) :
    Calls Tryz.prog 77 #[.agg #[.int .i64 k, .int .i64 n, .string t]] w (VRet k' 0 r w) := by
  have hS0 := (V3.new w k n t).alloc (.cells #[.int .i64 0, .int .i64 0, .string ⟨#[]⟩] 25)
  have hR0 := V3.new (w.alloc (.cells #[.int .i64 k, .int .i64 n, .string t] 25)) 0 0 ⟨#[]⟩
  rw [World.size_alloc] at hR0
  have hb0 := ((Below.refl _ w).alloc (Nat.le_refl _) (.cells #[.int .i64 k, .int .i64 n, .string t] 25)).alloc (by simp) (.cells #[.int .i64 0, .int .i64 0, .string ⟨#[]⟩] 25)
  obtain ⟨a0, a1, a2, a3, a4, a5⟩ := hS0.cells
  have hcv : ∀ W : World, (convert 9 99 (.string s)).run Tryz.prog W = .ok (.slice (some ⟨W.heap.size, 0, none⟩) s.size (grownCap W s.size 0 5)) (W.drew.alloc (.cells (bytesRow s (grownCap W s.size 0 5)) 5 ((bytesRow s (grownCap W s.size 0 5)).size, (bytesRow s (grownCap W s.size 0 5)).size + 1))) := fun W => run_bytes_of_string W _ _ _ s Tryz.underlying9 Tryz.underlying99 Tryz.underlying5
  replace hi := Lib.hid hi
  go_enter Tryz.func77, Tryz.ntmps77
  go_wp2_with (go_at_call 83; refine (fbytes_is _ _ _ _ hi.out ((hL.alloc _).alloc _) _ _ hv).mono ?_; rintro e w1 ⟨rfl, hb1⟩)
  have hR1 := hR0.on hb1
  have hB1 := below_step hb0 hb0.size hb1
  clear hS0 hR0 hb0 hb1 a0 a1 a2 a3 a4 a5 hL hv
  obtain ⟨cap, hcap⟩ : ∃ cap, grownCap w1 s.size 0 5 = cap := ⟨_, rfl⟩
  try rw [hcap]
  obtain ⟨W0, hW0⟩ : ∃ W0, (w1.alloc (.cells (bytesRow s cap) 5 ((bytesRow s cap).size, (bytesRow s cap).size + 1))).drew = W0 := ⟨_, rfl⟩
  have hB0 : Below w.heap.size w W0 := by rw [← hW0]; exact (hB1.alloc hB1.size _).drew
  have hh0 : W0.heap[w1.heap.size]? = some (.cells (bytesRow s cap) 5 ((bytesRow s cap).size, (bytesRow s cap).size + 1)) := by rw [← hW0]; exact heap_new w1 _
  have hR2 : V3 W0 (w.heap.size + 1) 0 0 ⟨#[]⟩ := by rw [← hW0]; exact hR1.alloc _
  obtain ⟨g, hg⟩ : ∃ g, w1.heap.size = g := ⟨_, rfl⟩
  have hgw : w.heap.size + 1 < g := by rw [← hg]; exact hR1.lt
  rw [hg] at hh0
  rw [hg]
  try rw [hW0]
  clear hW0 hcv hcap hB1 hR1
  go_loopw [3, 10] (fun ov iv wr => ∃ (k : Nat) (acc : List UInt8), iv = .int .i64 (k : Int) ∧ k ≤ s.size ∧ wr.ownsRow (g + 1) 5 1 ov acc.length (bytesC acc) ∧ Hid (acc = hexU (s.data.toList.take k)) ∧ Hid (wr.heap[g]? = some (.cells (bytesRow s cap) 5 ((bytesRow s cap).size, (bytesRow s cap).size + 1))) ∧ Hid (V3 wr (w.heap.size + 1) 0 0 ⟨#[]⟩) ∧ Below w.heap.size w wr) (fun _ iv _ => s.size - (intOf iv).toNat)
  case atStart => exact ⟨0, [], by go_num, by omega, World.ownsRow_nil _ _ _ _, Lib.hid rfl, Lib.hid hh0, Lib.hid hR2, hB0⟩
  case round =>
    obtain ⟨k, acc, rfl, hk, hown, hacc, hh, hRr, hB⟩ := hrel
    clear hB0 hh0 hR2
    by_cases hlt : k < s.size
    · have hl' : k < s.data.toList.length := hlt
      obtain ⟨c, hc⟩ : ∃ c, s.data.toList[k] = c := ⟨_, rfl⟩
      have hsn : hexU (s.data.toList.take (k + 1)) = acc ++ [digU (c.toNat / 16), digU (c.toNat % 16)] := by
        rw [List.take_succ_eq_append_getElem hl', hexU_snoc, hacc.out, hc]
      have c0 := (cell_of_row _ _ k _ _ _ hh.out).trans (bytesRow_at s cap k hlt)
      rw [show s.data[k] = c from hc] at c0
      have hcl := c.toNat_lt
      have hlB : decide ((k : Int) < (s.size : Int)) = true := by simp; omega
      have i0 : (0 : Int) ≤ (k : Int) := by omega
      have i1 : (k : Int) < (s.size : Int) := by omega
      have hal : acc.length ≤ 2 * s.size := by rw [hacc.out, hexU_len, List.length_take]; omega
      have ea : bits BinOp.and IntKind.u8 (c.toNat : Int) 15 = (c.toNat : Int) % 16 := by rw [and15 c.toNat hcl]; simp
      have x1 : ∀ W, (Instr.index 9 (.string ⟨#[48, 49, 50, 51, 52, 53, 54, 55, 56, 57, 65, 66, 67, 68, 69, 70]⟩) (.int .u8 ((c.toNat : Int) / 16))).run Tryz.prog W = .ok (.int .u8 ((digU (c.toNat / 16)).toNat : Int)) W := fun W => by
        have := index_hex (c.toNat / 16) (by omega) W
        rwa [show ((c.toNat / 16 : Nat) : Int) = (c.toNat : Int) / 16 by simp] at this
      have x2 : ∀ W, (Instr.index 9 (.string ⟨#[48, 49, 50, 51, 52, 53, 54, 55, 56, 57, 65, 66, 67, 68, 69, 70]⟩) (.int .u8 ((c.toNat : Int) % 16))).run Tryz.prog W = .ok (.int .u8 ((digU (c.toNat % 16)).toNat : Int)) W := fun W => by
        have := index_hex (c.toNat % 16) (by omega) W
        rwa [show ((c.toNat % 16 : Nat) : Int) = (c.toNat : Int) % 16 by simp] at this
      have hzr : g < wr.heap.size := (Array.getElem?_eq_some_iff.1 hh.out).1
      have hhx := hh.out
      replace hsn := Lib.hid hsn
      clear hc hl' hh
      go_wp2
      obtain ⟨W1, hW1⟩ : ∃ W, wr.drew = W := ⟨_, rfl⟩
      have hown1 := hown.drew
      rw [hW1] at hown1
      have hB1 : Below w.heap.size w W1 := by rw [← hW1]; exact hB.drew
      have hR1 : V3 W1 (w.heap.size + 1) 0 0 ⟨#[]⟩ := by rw [← hW1]; exact hRr.out
      have hh1 : W1.heap[g]? = some (.cells (bytesRow s cap) 5 ((bytesRow s cap).size, (bytesRow s cap).size + 1)) := by rw [← hW1]; exact hhx
      refine wp_region_held_drew (S := fun _ => True) (by kernel_rfl) trivial (fun hH => ?_)
      rw [hW1]
      have hz1 : g + 1 ≤ W1.heap.size := (Array.getElem?_eq_some_iff.1 hh1).1
      clear hW1 hown hB hRr hhx
      replace hh1 := Lib.hid hh1
      replace hR1 := Lib.hid hR1
      refine wpAnyH_take (i := 0) (v := ?_) rfl (by kernel_rfl) (by kernel_rfl) (by kernel_rfl) (fun _ _ _ h => h) (Or.inl ⟨by rfl, ?_⟩) hH ?_
      rotate_left
      · (intro W hSw; (try dsimp only at hSw); go_simp; try with_reducible rfl)
      try simp only [List.getElem_toArray, List.getElem_cons_zero, List.getElem_cons_succ, Act.put, List.setIfInBounds_toArray, List.set_cons_zero, List.set_cons_succ]
      refine wpAnyH_take (i := 1) (v := ?_) rfl (by kernel_rfl) (by kernel_rfl) (by kernel_rfl) (fun _ _ _ h => h) (Or.inl ⟨by rfl, ?_⟩) hH ?_
      rotate_left
      · (intro W hSw; (try dsimp only at hSw); go_simp; try with_reducible rfl)
      try simp only [List.getElem_toArray, List.getElem_cons_zero, List.getElem_cons_succ, Act.put, List.setIfInBounds_toArray, List.set_cons_zero, List.set_cons_succ]
      refine wpAnyH_take (i := 4) (v := ?_) rfl (by kernel_rfl) (by kernel_rfl) (by kernel_rfl) (fun _ _ _ h => h) (Or.inl ⟨by rfl, ?_⟩) hH ?_
      rotate_left
      · (intro W hSw; (try dsimp only at hSw); go_simp; try with_reducible rfl)
      try simp only [List.getElem_toArray, List.getElem_cons_zero, List.getElem_cons_succ, Act.put, List.setIfInBounds_toArray, List.set_cons_zero, List.set_cons_succ]
      refine wpAnyH_take (i := 2) (v := ?_) rfl (by kernel_rfl) (by kernel_rfl) (by kernel_rfl) (fun _ _ _ h => h) (Or.inl ⟨by rfl, ?_⟩) hH ?_
      rotate_left
      · (intro W hSw; (try dsimp only at hSw); go_simp; try with_reducible rfl)
      try simp only [List.getElem_toArray, List.getElem_cons_zero, List.getElem_cons_succ, Act.put, List.setIfInBounds_toArray, List.set_cons_zero, List.set_cons_succ]
      refine wpAnyH_take (i := 5) (v := ?_) rfl (by kernel_rfl) (by kernel_rfl) (by kernel_rfl) (fun _ _ _ h => h) (Or.inl ⟨by rfl, ?_⟩) hH ?_
      rotate_left
      · (intro W hSw; (try dsimp only at hSw); go_simp; try with_reducible rfl)
      try simp only [List.getElem_toArray, List.getElem_cons_zero, List.getElem_cons_succ, Act.put, List.setIfInBounds_toArray, List.set_cons_zero, List.set_cons_succ]
      refine wpAnyH_take (i := 3) (v := ?_) rfl (by kernel_rfl) (by kernel_rfl) (by kernel_rfl) (fun _ _ _ h => h) (Or.inl ⟨by rfl, ?_⟩) hH ?_
      rotate_left
      · (intro W hSw; (try dsimp only at hSw); go_simp; try with_reducible rfl)
      try simp only [List.getElem_toArray, List.getElem_cons_zero, List.getElem_cons_succ, Act.put, List.setIfInBounds_toArray, List.set_cons_zero, List.set_cons_succ]
      refine wpAnyH_take (i := 6) (v := ?_) rfl (by kernel_rfl) (by kernel_rfl) (by kernel_rfl) (fun _ _ _ h => h) (Or.inl ⟨by rfl, ?_⟩) hH ?_
      rotate_left
      · (intro W hSw; (try dsimp only at hSw); go_simp; try with_reducible rfl)
      try simp only [List.getElem_toArray, List.getElem_cons_zero, List.getElem_cons_succ, Act.put, List.setIfInBounds_toArray, List.set_cons_zero, List.set_cons_succ]
      refine wpAnyH_ready (rs := [7]) (by kernel_rfl) (by simp) ?_
      refine AllReadyH.cons rfl (fun K hK => ?_) AllReadyH.nil
      go_simp
      refine hK.out _ _ trivial (fun _ => ?_)
      clear hK K
      try simp only [List.getElem_toArray, List.getElem_cons_zero, List.getElem_cons_succ, Act.put, List.setIfInBounds_toArray, List.set_cons_zero, List.set_cons_succ]
      refine wpAnyH_ready (rs := [8]) (by kernel_rfl) (by simp) ?_
      refine AllReadyH.cons rfl (fun K hK => ?_) AllReadyH.nil
      refine step_pushM rfl rfl _ _ 99 rfl 2 (g + 1) 5 Tryz.underlying99 fbyte_info rfl (by decide) _ _ _ rfl hown1 _ rfl rfl (u8_two _ _) (by decide) (by omega) (by decide) hz1 ?_
      intro v' w2 hown2 hb2
      refine hK.out _ _ trivial (fun _ => ?_)
      clear hK K
      try simp only [List.getElem_toArray, List.getElem_cons_zero, List.getElem_cons_succ, Act.put, List.setIfInBounds_toArray, List.set_cons_zero, List.set_cons_succ]
      refine wpAnyH_take (i := 9) (v := ?_) rfl (by kernel_rfl) (by kernel_rfl) (by kernel_rfl) (fun _ _ _ h => h) (Or.inl ⟨by rfl, ?_⟩) hH ?_
      rotate_left
      · (intro W hSw; (try dsimp only at hSw); go_simp; try with_reducible rfl)
      try simp only [List.getElem_toArray, List.getElem_cons_zero, List.getElem_cons_succ, Act.put, List.setIfInBounds_toArray, List.set_cons_zero, List.set_cons_succ]
      refine wpAnyH_done (by kernel_rfl) ?_ _
      have hh2 := (hb2.block g (Nat.lt_succ_self _)).trans hh1.out
      have hR2 : V3 w2 (w.heap.size + 1) 0 0 ⟨#[]⟩ := (hb2.block _ (by omega)).trans hR1.out
      have hB2 : Below w.heap.size w w2 := hB1.trans (hb2.mono (by omega))
      replace hh2 := Lib.hid hh2
      replace hR2 := Lib.hid hR2
      clear hb2 hown1 hB1
      go_wp2
      go_roundw
      case rel => exact ⟨k + 1, acc ++ [digU (c.toNat / 16), digU (c.toNat % 16)], by go_num, by omega, by simpa [bytesC] using hown2, Lib.hid hsn.out.symm, hh2, hR2, hB2⟩
      case measure => simp [intOf]; omega
    · have hcv := run_string_own (P := Tryz.prog) 99 9 5 Tryz.underlying99 Tryz.underlying5 Tryz.underlying9 hown
      have hst := hacc.out
      rw [List.take_of_length_le (Nat.le_of_not_lt hlt)] at hst
      have hx : Val.ptext (bs acc).data.toList = ⟨k', 0, r.data.toList⟩ := by rw [bs_data, hst]; exact hr.out
      obtain ⟨R, hR⟩ : ∃ R, bs acc = R := ⟨_, rfl⟩
      rw [hR] at hcv hx
      replace hx := Lib.hid hx
      have hRr := hRr.out
      have lB : decide ((k : Int) < (s.size : Int)) = false := by simp; omega
      clear hst hacc hR hh
      go_wp2_with (go_at_call 86; refine (ftext_is _ _ _ _ hx).mono ?_; rintro e w3 ⟨rfl, hb3⟩; have hR2 := hRr.on hb3; obtain ⟨b0, b1, b2, b3, b4, b5⟩ := hR2.cells)
      exact bodyPost_ret (v := .agg #[.int .i64 k', .int .i64 0, .string r]) (by simp only [results, Tryz.results77]; go_simp) rfl ⟨rfl, below_put (below_step hB hB.size hb3) (by omega)⟩

end Go.Proofs.YtmkgalcojoeniaaGreatDoor

namespace Go.Proofs.YtmkgalcojoeniaaGreatDoor
open Go.RowKit
attribute [local go_sem] run_store_fn run_store_nofn

/-- a value in three cells of a block -/
def VAt (W : World) (b off : Nat) (k n : Int) (t : ByteArray) : Prop := W.cell? ⟨b, off, none⟩ = some (.int .i64 k) ∧ W.cell? ⟨b, off + 1, none⟩ = some (.int .i64 n) ∧ W.cell? ⟨b, off + 2, none⟩ = some (.string t) ∧ b < W.heap.size
theorem VAt.on {W W' : World} {b off : Nat} {k n : Int} {t : ByteArray} (h : VAt W b off k n t) (hb : Below W.heap.size W W') : VAt W' b off k n t :=
  ⟨(hb.cell (p := ⟨b, off, none⟩) h.2.2.2).trans h.1, (hb.cell (p := ⟨b, off + 1, none⟩) h.2.2.2).trans h.2.1, (hb.cell (p := ⟨b, off + 2, none⟩) h.2.2.2).trans h.2.2.1, Nat.lt_of_lt_of_le h.2.2.2 hb.size⟩
theorem ValsAt.get {w : World} {p : Option Addr} {N : Nat} {vs : List Val.V} (hA : ValsAt w p N vs) {i : Nat} {v : Val.V} (hv : vs[i]? = some v) : ∃ b off, p = some ⟨b, off, none⟩ ∧ VAt w b (off + i * 3) v.kind v.int (bs v.text) := by
  rcases hA.2 with h0 | ⟨b, off, rfl, hbl, hcell⟩
  · rw [h0] at hv; simp at hv
  · obtain ⟨c0, c1, c2⟩ := hcell i v hv
    exact ⟨b, off, rfl, c0, c1, c2, hbl⟩
theorem VAt.same {w : World} {b off b' off' i : Nat} {k n : Int} {t : ByteArray} (h : VAt w b' (off' + i * 3) k n t) (he : (some ⟨b', off', none⟩ : Option Addr) = some ⟨b, off, none⟩) : VAt w b (off + i * 3) k n t := by
  cases he; exact h

def coalesceV : List Val.V → Val.V
  | [] => Val.zero
  | v :: l => if v.kind = 0 then coalesceV l else v
set_option maxHeartbeats 1000000 in
theorem coalesce_is (c : Int) (p : Option Addr) (N cap : Nat) (vs : List Val.V) (w : World) (hA : ValsAt w p N vs) (hN : N ≤ 1048576) (k' n' : Int) (t' : ByteArray) (hv : Hid (coalesceV vs = ⟨k', n', t'.data.toList⟩)) :
    Calls Tryz.prog 76 #[.int .i64 c, .slice p N cap] w (VRet k' n' t' w) := by
  have hlen := hA.1
  have hv0 := V3.new w 0 0 ⟨#[]⟩
  have hb0 := below_new w (.cells #[.int .i64 0, .int .i64 0, .string ⟨#[]⟩] 25)
  replace hlen := Lib.hid hlen
  go_enter Tryz.func76, Tryz.ntmps76
  go_wp2
  go_loopw [9] (fun iv wr => ∃ k : Nat, iv = .int .i64 (k : Int) ∧ k ≤ N ∧ Hid (coalesceV (vs.drop k) = ⟨k', n', t'.data.toList⟩) ∧ Hid (V3 wr w.heap.size 0 0 ⟨#[]⟩) ∧ Below w.heap.size w wr) (fun iv _ => N - (intOf iv).toNat)
  case atStart => exact ⟨0, by go_num, by omega, hv, Lib.hid hv0, hb0⟩
  case round =>
    obtain ⟨k, rfl, hk, hc, hR, hB⟩ := hrel
    clear hv hv0 hb0
    have hR := hR.out
    have hzB := hB.size
    by_cases hlt : k < N
    · have hlk : k < vs.length := by rw [hlen.out]; exact hlt
      have hcc := hc.out
      rw [List.drop_eq_getElem_cons hlk] at hcc
      obtain ⟨v, hvk⟩ : ∃ v, vs[k] = v := ⟨_, rfl⟩
      have hgk : vs[k]? = some v := by rw [List.getElem?_eq_getElem hlk, hvk]
      rw [hvk] at hcc
      obtain ⟨b, off, rfl, hat⟩ := (hA.below hB).get hgk
      obtain ⟨kd, n, tx⟩ := v
      obtain ⟨t, rfl⟩ : ∃ t : ByteArray, tx = t.data.toList := ⟨bs tx, rfl⟩
      rw [bs_of] at hat
      obtain ⟨c0, c1, c2, hbl⟩ := hat
      simp only at c0 c1 c2
      have lB : decide ((k : Int) < (N : Int)) = true := by simp; omega
      have i0 : (0 : Int) ≤ (k : Int) := by omega
      have i1 : (k : Int) < (N : Int) := by omega
      have hR2 := hR.alloc (.cells #[.int .i64 kd, .int .i64 n, .string t] 25)
      have hB2 := hB.alloc hzB (.cells #[.int .i64 kd, .int .i64 n, .string t] 25)
      simp only [coalesceV] at hcc
      clear hvk hgk hc hR hlk
      by_cases h0 : kd = 0
      · rw [if_pos h0] at hcc
        have q : (kd != 0) = false := by rw [h0]; rfl
        replace hcc := Lib.hid hcc
        replace hR2 := Lib.hid hR2
        clear h0
        go_wp2
        go_roundw
        case rel => exact ⟨k + 1, by go_num, by omega, hcc, hR2, hB2⟩
        case measure => simp [intOf]; omega
      · rw [if_neg h0] at hcc
        injection hcc with e1 e2 e3
        obtain rfl : t = t' := by rw [← bs_of t, ← bs_of t', e3]
        subst e1
        subst e2
        have q : (kd != 0) = true := by simpa using h0
        obtain ⟨r0, r1, r2, r3, r4, r5⟩ := hR2.cells
        clear h0 e3
        go_wp2
        exact bodyPost_ret (v := .agg #[.int .i64 kd, .int .i64 n, .string t]) (by simp only [results, Tryz.results76]; go_simp) rfl ⟨rfl, below_put hB2 (Nat.le_refl _)⟩
    · have hcc := hc.out
      rw [List.drop_eq_nil_of_le (by rw [hlen.out]; omega)] at hcc
      injection hcc with e1 e2 e3
      obtain rfl : t' = ⟨#[]⟩ := by rw [← bs_of t', ← e3]; rfl
      subst e1
      subst e2
      have lB : decide ((k : Int) < (N : Int)) = false := by simp; omega
      obtain ⟨r0, r1, r2, r3, r4, r5⟩ := hR.cells
      clear e3 hc
      go_wp2
      exact bodyPost_ret (v := .agg #[.int .i64 0, .int .i64 0, .string ⟨#[]⟩]) (by simp only [results, Tryz.results76]; go_simp) rfl ⟨rfl, below_put hB (Nat.le_refl _)⟩

set_option maxHeartbeats 1000000 in
theorem quote_is (c : Int) (b off N cap : Nat) (k n : Int) (t : ByteArray) (w : World) (hL : Lits w) (hi : Val.inr n) (hN : 0 < N) (hv : VAt w b off k n t) (s : ByteArray) (E : Nat) (hp : Hid (Val.print ⟨k, n, t.data.toList⟩ = (s.data.toList, E))) (k' : Int) (r : ByteArray) (hr : Hid (Val.ptext s.data.toList = ⟨k', 0, r.data.toList⟩)) :
    Calls Tryz.prog 91 #[.int .i64 c, .slice (some ⟨b, off, none⟩) N cap] w (VRet k' 0 r w) := by
  have hb0 := below_new w (.cells #[.int .i64 0, .int .i64 0, .string ⟨#[]⟩] 25)
  have hR0 := V3.new w 0 0 ⟨#[]⟩
  obtain ⟨c0, c1, c2, hbl⟩ := hv.on hb0
  have i1 : (0 : Int) < (N : Int) := by omega
  replace hi := Lib.hid hi
  go_enter Tryz.func91, Tryz.ntmps91
  go_wp2_with (first
    | (go_at_call 43; refine (vprint_it _ _ _ _ hp hi.out.1 hi.out.2 (hL.alloc _)).mono ?_; rintro e w1 ⟨rfl, hb1⟩)
    | (go_at_call 86; refine (ftext_is _ _ _ _ hr).mono ?_; rintro e w2 ⟨rfl, hb2⟩; have hR2 := (hR0.on hb1).on hb2; obtain ⟨a0, a1, a2, a3, a4, a5⟩ := hR2.cells))
  exact bodyPost_ret (v := .agg #[.int .i64 k', .int .i64 0, .string r]) (by simp only [results, Tryz.results91]; go_simp) rfl ⟨rfl, below_put (below_step (below_step hb0 hb0.size hb1) (below_step hb0 hb0.size hb1).size hb2) (Nat.le_refl _)⟩

end Go.Proofs.YtmkgalcojoeniaaGreatDoor

namespace Go.Proofs.YtmkgalcojoeniaaGreatDoor
open Go.RowKit
attribute [local go_sem] run_store_fn run_store_nofn

theorem sindex_any (x y : ByteArray) (w : World) (hM : MaxL w) (hx : x.size ≤ 1048576) : Calls Tryz.prog 82 #[.string x, .string y] w fun e w' => e = .returned (.int .i64 (Lib.index x.data.toList y.data.toList)) ∧ w = w' := by
  obtain ⟨m, h1, _⟩ := hM
  exact (Tryz.strings_Index x y m w (by omega) h1).mono fun e w' ⟨he, hw⟩ => ⟨he, hw.symm⟩
theorem sreplace_any (x y z : ByteArray) (w : World) (hM : MaxL w) (hx : x.size ≤ 400) (hy : 1 ≤ y.size) (hz : z.size ≤ 400) (r : ByteArray) (hr : Hid (bs (Lib.replaceAll x.data.toList y.data.toList z.data.toList) = r)) : Calls Tryz.prog 93 #[.string x, .string y, .string z] w fun e w' => e = .returned (.string r) ∧ Below w.heap.size w w' := by
  obtain ⟨m, h1, _⟩ := hM
  have hc := Lib.countB_le y hy x.size x (Nat.le_refl _)
  have hm : Lib.countB x y * z.size ≤ 401 * 400 := Nat.mul_le_mul (by omega) hz
  exact (Tryz.strings_ReplaceAll x y z m w (by omega) h1 hy (by omega)).mono fun e w' ⟨he, hb⟩ => ⟨by rw [he, ← hr.out]; rfl, hb⟩

/-- a kind's name -/
def kindName (k : Int) : List UInt8 := if k = 0 then [110, 117, 108, 108] else if k = 1 then [105, 110, 116, 101, 103, 101, 114] else if k = 2 then [116, 101, 120, 116] else [98, 108, 111, 98]
theorem typeof_0 (c : Int) (b off N cap : Nat) (n : Int) (t : ByteArray) (w : World) (hN : 0 < N) (hv : VAt w b off 0 n t) :
    Calls Tryz.prog 96 #[.int .i64 c, .slice (some ⟨b, off, none⟩) N cap] w (VRet 2 0 ⟨#[110, 117, 108, 108]⟩ w) := by
  have hb0 := below_new w (.cells #[.int .i64 0, .int .i64 0, .string ⟨#[]⟩] 25)
  have hR0 := V3.new w 0 0 ⟨#[]⟩
  have hb1 := hb0.alloc hb0.size (.cells #[.string ⟨#[110, 117, 108, 108]⟩, .string ⟨#[105, 110, 116, 101, 103, 101, 114]⟩, .string ⟨#[116, 101, 120, 116]⟩, .string ⟨#[98, 108, 111, 98]⟩] 9)
  have hR1 := hR0.alloc (.cells #[.string ⟨#[110, 117, 108, 108]⟩, .string ⟨#[105, 110, 116, 101, 103, 101, 114]⟩, .string ⟨#[116, 101, 120, 116]⟩, .string ⟨#[98, 108, 111, 98]⟩] 9)
  obtain ⟨c0, c1, c2, hbl⟩ := hv.on hb1
  have i1 : (0 : Int) < (N : Int) := by omega
  have hx : Val.ptext (⟨#[110, 117, 108, 108]⟩ : ByteArray).data.toList = ⟨2, 0, (⟨#[110, 117, 108, 108]⟩ : ByteArray).data.toList⟩ := rfl
  replace hx := Lib.hid hx
  go_enter Tryz.func96, Tryz.ntmps96
  go_wp2_with (go_at_call 86; refine (ftext_is _ _ _ _ hx).mono ?_; rintro e w2 ⟨rfl, hb2⟩; have hR2 := hR1.on hb2; obtain ⟨a0, a1, a2, a3, a4, a5⟩ := hR2.cells)
  exact bodyPost_ret (v := .agg #[.int .i64 2, .int .i64 0, .string ⟨#[110, 117, 108, 108]⟩]) (by simp only [results, Tryz.results96]; go_simp) rfl ⟨rfl, below_put (below_step hb1 hb1.size hb2) (Nat.le_refl _)⟩
theorem typeof_1 (c : Int) (b off N cap : Nat) (n : Int) (t : ByteArray) (w : World) (hN : 0 < N) (hv : VAt w b off 1 n t) :
    Calls Tryz.prog 96 #[.int .i64 c, .slice (some ⟨b, off, none⟩) N cap] w (VRet 2 0 ⟨#[105, 110, 116, 101, 103, 101, 114]⟩ w) := by
  have hb0 := below_new w (.cells #[.int .i64 0, .int .i64 0, .string ⟨#[]⟩] 25)
  have hR0 := V3.new w 0 0 ⟨#[]⟩
  have hb1 := hb0.alloc hb0.size (.cells #[.string ⟨#[110, 117, 108, 108]⟩, .string ⟨#[105, 110, 116, 101, 103, 101, 114]⟩, .string ⟨#[116, 101, 120, 116]⟩, .string ⟨#[98, 108, 111, 98]⟩] 9)
  have hR1 := hR0.alloc (.cells #[.string ⟨#[110, 117, 108, 108]⟩, .string ⟨#[105, 110, 116, 101, 103, 101, 114]⟩, .string ⟨#[116, 101, 120, 116]⟩, .string ⟨#[98, 108, 111, 98]⟩] 9)
  obtain ⟨c0, c1, c2, hbl⟩ := hv.on hb1
  have i1 : (0 : Int) < (N : Int) := by omega
  have hx : Val.ptext (⟨#[105, 110, 116, 101, 103, 101, 114]⟩ : ByteArray).data.toList = ⟨2, 0, (⟨#[105, 110, 116, 101, 103, 101, 114]⟩ : ByteArray).data.toList⟩ := rfl
  replace hx := Lib.hid hx
  go_enter Tryz.func96, Tryz.ntmps96
  go_wp2_with (go_at_call 86; refine (ftext_is _ _ _ _ hx).mono ?_; rintro e w2 ⟨rfl, hb2⟩; have hR2 := hR1.on hb2; obtain ⟨a0, a1, a2, a3, a4, a5⟩ := hR2.cells)
  exact bodyPost_ret (v := .agg #[.int .i64 2, .int .i64 0, .string ⟨#[105, 110, 116, 101, 103, 101, 114]⟩]) (by simp only [results, Tryz.results96]; go_simp) rfl ⟨rfl, below_put (below_step hb1 hb1.size hb2) (Nat.le_refl _)⟩
theorem typeof_2 (c : Int) (b off N cap : Nat) (n : Int) (t : ByteArray) (w : World) (hN : 0 < N) (hv : VAt w b off 2 n t) :
    Calls Tryz.prog 96 #[.int .i64 c, .slice (some ⟨b, off, none⟩) N cap] w (VRet 2 0 ⟨#[116, 101, 120, 116]⟩ w) := by
  have hb0 := below_new w (.cells #[.int .i64 0, .int .i64 0, .string ⟨#[]⟩] 25)
  have hR0 := V3.new w 0 0 ⟨#[]⟩
  have hb1 := hb0.alloc hb0.size (.cells #[.string ⟨#[110, 117, 108, 108]⟩, .string ⟨#[105, 110, 116, 101, 103, 101, 114]⟩, .string ⟨#[116, 101, 120, 116]⟩, .string ⟨#[98, 108, 111, 98]⟩] 9)
  have hR1 := hR0.alloc (.cells #[.string ⟨#[110, 117, 108, 108]⟩, .string ⟨#[105, 110, 116, 101, 103, 101, 114]⟩, .string ⟨#[116, 101, 120, 116]⟩, .string ⟨#[98, 108, 111, 98]⟩] 9)
  obtain ⟨c0, c1, c2, hbl⟩ := hv.on hb1
  have i1 : (0 : Int) < (N : Int) := by omega
  have hx : Val.ptext (⟨#[116, 101, 120, 116]⟩ : ByteArray).data.toList = ⟨2, 0, (⟨#[116, 101, 120, 116]⟩ : ByteArray).data.toList⟩ := rfl
  replace hx := Lib.hid hx
  go_enter Tryz.func96, Tryz.ntmps96
  go_wp2_with (go_at_call 86; refine (ftext_is _ _ _ _ hx).mono ?_; rintro e w2 ⟨rfl, hb2⟩; have hR2 := hR1.on hb2; obtain ⟨a0, a1, a2, a3, a4, a5⟩ := hR2.cells)
  exact bodyPost_ret (v := .agg #[.int .i64 2, .int .i64 0, .string ⟨#[116, 101, 120, 116]⟩]) (by simp only [results, Tryz.results96]; go_simp) rfl ⟨rfl, below_put (below_step hb1 hb1.size hb2) (Nat.le_refl _)⟩
theorem typeof_3 (c : Int) (b off N cap : Nat) (n : Int) (t : ByteArray) (w : World) (hN : 0 < N) (hv : VAt w b off 3 n t) :
    Calls Tryz.prog 96 #[.int .i64 c, .slice (some ⟨b, off, none⟩) N cap] w (VRet 2 0 ⟨#[98, 108, 111, 98]⟩ w) := by
  have hb0 := below_new w (.cells #[.int .i64 0, .int .i64 0, .string ⟨#[]⟩] 25)
  have hR0 := V3.new w 0 0 ⟨#[]⟩
  have hb1 := hb0.alloc hb0.size (.cells #[.string ⟨#[110, 117, 108, 108]⟩, .string ⟨#[105, 110, 116, 101, 103, 101, 114]⟩, .string ⟨#[116, 101, 120, 116]⟩, .string ⟨#[98, 108, 111, 98]⟩] 9)
  have hR1 := hR0.alloc (.cells #[.string ⟨#[110, 117, 108, 108]⟩, .string ⟨#[105, 110, 116, 101, 103, 101, 114]⟩, .string ⟨#[116, 101, 120, 116]⟩, .string ⟨#[98, 108, 111, 98]⟩] 9)
  obtain ⟨c0, c1, c2, hbl⟩ := hv.on hb1
  have i1 : (0 : Int) < (N : Int) := by omega
  have hx : Val.ptext (⟨#[98, 108, 111, 98]⟩ : ByteArray).data.toList = ⟨2, 0, (⟨#[98, 108, 111, 98]⟩ : ByteArray).data.toList⟩ := rfl
  replace hx := Lib.hid hx
  go_enter Tryz.func96, Tryz.ntmps96
  go_wp2_with (go_at_call 86; refine (ftext_is _ _ _ _ hx).mono ?_; rintro e w2 ⟨rfl, hb2⟩; have hR2 := hR1.on hb2; obtain ⟨a0, a1, a2, a3, a4, a5⟩ := hR2.cells)
  exact bodyPost_ret (v := .agg #[.int .i64 2, .int .i64 0, .string ⟨#[98, 108, 111, 98]⟩]) (by simp only [results, Tryz.results96]; go_simp) rfl ⟨rfl, below_put (below_step hb1 hb1.size hb2) (Nat.le_refl _)⟩
theorem typeof_is (c : Int) (b off N cap : Nat) (k n : Int) (t : ByteArray) (w : World) (hN : 0 < N) (hv : VAt w b off k n t) (hk : k = 0 ∨ k = 1 ∨ k = 2 ∨ k = 3) :
    Calls Tryz.prog 96 #[.int .i64 c, .slice (some ⟨b, off, none⟩) N cap] w (VRet 2 0 (bs (kindName k)) w) := by
  rcases hk with rfl | rfl | rfl | rfl
  · exact typeof_0 c b off N cap n t w hN hv
  · exact typeof_1 c b off N cap n t w hN hv
  · exact typeof_2 c b off N cap n t w hN hv
  · exact typeof_3 c b off N cap n t w hN hv

set_option maxHeartbeats 1000000 in
theorem iif_is (c : Int) (b off N cap : Nat) (k n : Int) (t : ByteArray) (k1 n1 : Int) (t1 : ByteArray) (k2 n2 : Int) (t2 : ByteArray) (w : World) (hL : Lits w) (hi : Val.inr n) (hN : 2 < N) (h0 : VAt w b off k n t) (h1 : VAt w b (off + 3) k1 n1 t1) (h2 : VAt w b (off + 6) k2 n2 t2) (r : Int) (hr : Hid (Val.tru ⟨k, n, t.data.toList⟩ = r)) (kr nr : Int) (tr : ByteArray) (hv : Hid ((if r = 1 then (⟨k1, n1, t1.data.toList⟩ : Val.V) else ⟨k2, n2, t2.data.toList⟩) = ⟨kr, nr, tr.data.toList⟩)) :
    Calls Tryz.prog 78 #[.int .i64 c, .slice (some ⟨b, off, none⟩) N cap] w (VRet kr nr tr w) := by
  have hb0 := below_new w (.cells #[.int .i64 0, .int .i64 0, .string ⟨#[]⟩] 25)
  have hR0 := V3.new w 0 0 ⟨#[]⟩
  have hv1 := h1.on hb0
  have hv2 := h2.on hb0
  obtain ⟨c0, c1, c2, hbl⟩ := h0.on hb0
  have n0 : 0 < N := by omega
  have i0 : (0 : Int) < (N : Int) := by omega
  have i1 : (1 : Int) < (N : Int) := by omega
  have i2 : (2 : Int) < (N : Int) := by omega
  have m1 : 1 < N := by omega
  have hh := hv.out
  replace hi := Lib.hid hi
  clear h1 h2 hv
  by_cases hr1 : r = 1
  · rw [if_pos hr1] at hh
    injection hh with e1 e2 e3
    obtain rfl : t1 = tr := by rw [← bs_of t1, ← bs_of tr, e3]
    subst e1
    subst e2
    have hd : decide (r = 1) = true := decide_eq_true hr1
    clear e3 hr1
    replace hd := Lib.hid hd
    go_enter Tryz.func78, Tryz.ntmps78
    go_wp2_with (go_at_call 79; refine (ctru_is _ _ _ _ hi.out.1 hi.out.2 (hL.alloc _) _ true _ hr hd (Lib.hid rfl)).mono ?_; rintro e w1 ⟨rfl, hb1⟩; obtain ⟨d0, d1, d2, dl⟩ := hv1.on hb1; have hR2 := hR0.on hb1; obtain ⟨a0, a1, a2, a3, a4, a5⟩ := hR2.cells)
    exact bodyPost_ret (v := .agg #[.int .i64 k1, .int .i64 n1, .string t1]) (by simp only [results, Tryz.results78]; go_simp) rfl ⟨rfl, below_put (below_step hb0 hb0.size hb1) (Nat.le_refl _)⟩
  · rw [if_neg hr1] at hh
    injection hh with e1 e2 e3
    obtain rfl : t2 = tr := by rw [← bs_of t2, ← bs_of tr, e3]
    subst e1
    subst e2
    have hd : decide (r = 1) = false := decide_eq_false hr1
    clear e3 hr1
    replace hd := Lib.hid hd
    go_enter Tryz.func78, Tryz.ntmps78
    go_wp2_with (go_at_call 79; refine (ctru_is _ _ _ _ hi.out.1 hi.out.2 (hL.alloc _) _ false _ hr hd (Lib.hid rfl)).mono ?_; rintro e w1 ⟨rfl, hb1⟩; obtain ⟨d0, d1, d2, dl⟩ := hv2.on hb1; have hR2 := hR0.on hb1; obtain ⟨a0, a1, a2, a3, a4, a5⟩ := hR2.cells)
    exact bodyPost_ret (v := .agg #[.int .i64 k2, .int .i64 n2, .string t2]) (by simp only [results, Tryz.results78]; go_simp) rfl ⟨rfl, below_put (below_step hb0 hb0.size hb1) (Nat.le_refl _)⟩

/-- what a function of two values reads -/
def Two (w W : World) (b off : Nat) (k n : Int) (t : ByteArray) (k1 n1 : Int) (t1 : ByteArray) : Prop := VAt W b off k n t ∧ VAt W b (off + 3) k1 n1 t1 ∧ (∃ x y z, V3 W w.heap.size x y z) ∧ b < w.heap.size ∧ Below w.heap.size w W
theorem Two.on {w W W' : World} {b off : Nat} {k n : Int} {t : ByteArray} {k1 n1 : Int} {t1 : ByteArray} (h : Two w W b off k n t k1 n1 t1) (hb : Below W.heap.size W W') : Two w W' b off k n t k1 n1 t1 := by
  obtain ⟨h1, h2, ⟨x, y, z, h3⟩, h4, h5⟩ := h
  exact ⟨h1.on hb, h2.on hb, ⟨x, y, z, h3.on hb⟩, h4, below_step h5 h5.size hb⟩
theorem VAt.other {W : World} {b off g : Nat} {k n : Int} {t : ByteArray} (h : VAt W b off k n t) (hne : b ≠ g) (x y z : Value) : VAt (((W.setCell ⟨g, 0, none⟩ x).setCell ⟨g, 1, none⟩ y).setCell ⟨g, 2, none⟩ z) b off k n t :=
  ⟨(put_other x y z (q := ⟨b, off, none⟩) hne).trans h.1, (put_other x y z (q := ⟨b, off + 1, none⟩) hne).trans h.2.1, (put_other x y z (q := ⟨b, off + 2, none⟩) hne).trans h.2.2.1, by rw [size_put]; exact h.2.2.2⟩
theorem Two.put {w W : World} {b off : Nat} {k n : Int} {t : ByteArray} {k1 n1 : Int} {t1 : ByteArray} (h : Two w W b off k n t k1 n1 t1) (x y : Int) (z : ByteArray) : Two w (((W.setCell ⟨w.heap.size, 0, none⟩ (.int .i64 x)).setCell ⟨w.heap.size, 1, none⟩ (.int .i64 y)).setCell ⟨w.heap.size, 2, none⟩ (.string z)) b off k n t k1 n1 t1 := by
  obtain ⟨h1, h2, ⟨x', y', z', h3⟩, h4, h5⟩ := h
  exact ⟨h1.other (by omega) _ _ _, h2.other (by omega) _ _ _, ⟨_, _, _, h3.put _ _ _⟩, h4, below_put h5 (Nat.le_refl _)⟩

set_option maxHeartbeats 2000000 in
theorem instr_is (c : Int) (b off N cap : Nat) (k n : Int) (t : ByteArray) (k1 n1 : Int) (t1 : ByteArray) (w : World) (hL : Lits w) (hi : Val.inr n) (hi1 : Val.inr n1) (hN : 1 < N) (h0 : VAt w b off k n t) (h1 : VAt w b (off + 3) k1 n1 t1) (x y : ByteArray) (hx : x.size ≤ 400) (hv : Hid (Val.pshow ⟨k, n, t.data.toList⟩ = ⟨2, 0, x.data.toList⟩)) (hv1 : Hid (Val.pshow ⟨k1, n1, t1.data.toList⟩ = ⟨2, 0, y.data.toList⟩)) (m : Int) (hm : Hid (Lib.index x.data.toList y.data.toList = m)) (hmr : -1 ≤ m ∧ m ≤ 400) :
    Calls Tryz.prog 80 #[.int .i64 c, .slice (some ⟨b, off, none⟩) N cap] w (VRet 1 (m + 1) ⟨#[]⟩ w) := by
  have hb0 := below_new w (.cells #[.int .i64 0, .int .i64 0, .string ⟨#[]⟩] 25)
  have hR0 := V3.new w 0 0 ⟨#[]⟩
  have n0 : 0 < N := by omega
  have i0 : (0 : Int) < (N : Int) := by omega
  have i1 : (1 : Int) < (N : Int) := by omega
  have hbw := h0.2.2.2
  have hT0 : Two w (w.alloc (.cells #[.int .i64 0, .int .i64 0, .string ⟨#[]⟩] 25)).drew b off k n t k1 n1 t1 := by
    have h0' := h0.on hb0
    have h1' := h1.on hb0
    exact ⟨⟨h0'.1, h0'.2.1, h0'.2.2.1, h0'.2.2.2⟩, ⟨h1'.1, h1'.2.1, h1'.2.2.1, h1'.2.2.2⟩, ⟨_, _, _, hR0⟩, hbw, hb0.drew⟩
  have hmr1 := hmr.1
  have hmr2 := hmr.2
  have hwm : IntKind.i64.wrap (m + 1) = m + 1 := by rw [IntKind.wrap_i64]; omega
  replace hi := Lib.hid hi
  replace hi1 := Lib.hid hi1
  clear hmr h0 h1
  go_enter Tryz.func80, Tryz.ntmps80
  go_wp2_with fail
  obtain ⟨W1, hW1⟩ : ∃ W, (w.alloc (.cells #[.int .i64 0, .int .i64 0, .string ⟨#[]⟩] 25)).drew = W := ⟨_, rfl⟩
  rw [hW1] at hT0
  refine wp_region_held_drew (S := fun W => Two w W b off k n t k1 n1 t1) (by kernel_rfl) ?_ (fun hH => ?_)
  · rw [hW1]; exact hT0
  rw [hW1] at hH ⊢
  clear hW1 hT0 hR0 hb0
  refine wpAnyH_take (i := 0) (v := ?_) rfl (by kernel_rfl) (by kernel_rfl) (by kernel_rfl) (fun _ _ _ h => h) (Or.inl ⟨by rfl, ?_⟩) hH ?_
  rotate_left
  · (intro W hSw; (try dsimp only at hSw); go_simp; try with_reducible rfl)
  try simp only [List.getElem_toArray, List.getElem_cons_zero, List.getElem_cons_succ, Act.put, List.setIfInBounds_toArray, List.set_cons_zero, List.set_cons_succ]
  refine wpAnyH_take (i := 1) (v := ?_) rfl (by kernel_rfl) (by kernel_rfl) (by kernel_rfl) (fun _ _ _ h => h) (Or.inl ⟨by rfl, ?_⟩) hH ?_
  rotate_left
  · (intro W hSw; (try dsimp only at hSw); go_simp; try with_reducible rfl)
  try simp only [List.getElem_toArray, List.getElem_cons_zero, List.getElem_cons_succ, Act.put, List.setIfInBounds_toArray, List.set_cons_zero, List.set_cons_succ]
  refine wpAnyH_take (i := 2) (v := ?_) rfl (by kernel_rfl) (by kernel_rfl) (by kernel_rfl) (fun _ _ _ h => h) (Or.inl ⟨by rfl, ?_⟩) hH ?_
  rotate_left
  · (intro W hSw; (try dsimp only at hSw); obtain ⟨z0, z1, z2, z3⟩ := hSw.1; obtain ⟨y0, y1, y2, y3⟩ := hSw.2.1; go_simp; try with_reducible rfl)
  try simp only [List.getElem_toArray, List.getElem_cons_zero, List.getElem_cons_succ, Act.put, List.setIfInBounds_toArray, List.set_cons_zero, List.set_cons_succ]
  refine wpAnyH_take (i := 4) (v := ?_) rfl (by kernel_rfl) (by kernel_rfl) (by kernel_rfl) (fun _ _ _ h => h) (Or.inl ⟨by rfl, ?_⟩) hH ?_
  rotate_left
  · (intro W hSw; (try dsimp only at hSw); go_simp; try with_reducible rfl)
  try simp only [List.getElem_toArray, List.getElem_cons_zero, List.getElem_cons_succ, Act.put, List.setIfInBounds_toArray, List.set_cons_zero, List.set_cons_succ]
  refine wpAnyH_take (i := 5) (v := ?_) rfl (by kernel_rfl) (by kernel_rfl) (by kernel_rfl) (fun _ _ _ h => h) (Or.inl ⟨by rfl, ?_⟩) hH ?_
  rotate_left
  · (intro W hSw; (try dsimp only at hSw); go_simp; try with_reducible rfl)
  try simp only [List.getElem_toArray, List.getElem_cons_zero, List.getElem_cons_succ, Act.put, List.setIfInBounds_toArray, List.set_cons_zero, List.set_cons_succ]
  refine wpAnyH_take (i := 6) (v := ?_) rfl (by kernel_rfl) (by kernel_rfl) (by kernel_rfl) (fun _ _ _ h => h) (Or.inl ⟨by rfl, ?_⟩) hH ?_
  rotate_left
  · (intro W hSw; (try dsimp only at hSw); obtain ⟨z0, z1, z2, z3⟩ := hSw.1; obtain ⟨y0, y1, y2, y3⟩ := hSw.2.1; go_simp; try with_reducible rfl)
  try simp only [List.getElem_toArray, List.getElem_cons_zero, List.getElem_cons_succ, Act.put, List.setIfInBounds_toArray, List.set_cons_zero, List.set_cons_succ]
  refine wpAnyH_ready (rs := [3]) (by kernel_rfl) (by simp) ?_
  refine AllReadyH.cons rfl (fun K hK => ?_) AllReadyH.nil
  go_simp
  go_at_call 83; refine (fbytes_is _ _ _ _ hi.out (hL.below hH.2.2.2.2) _ _ hv).mono ?_; rintro e w2 ⟨rfl, hb2⟩
  refine hK.out _ _ ?_ (fun hH2 => ?_)
  · exact hH.on hb2
  clear hK K
  try simp only [List.getElem_toArray, List.getElem_cons_zero, List.getElem_cons_succ, Act.put, List.setIfInBounds_toArray, List.set_cons_zero, List.set_cons_succ]
  refine wpAnyH_ready (rs := [7]) (by kernel_rfl) (by simp) ?_
  refine AllReadyH.cons rfl (fun K hK => ?_) AllReadyH.nil
  go_simp
  go_at_call 83; refine (fbytes_is _ _ _ _ hi1.out (hL.below hH2.2.2.2.2) _ _ hv1).mono ?_; rintro e w3 ⟨rfl, hb3⟩
  refine hK.out _ _ ?_ (fun hH3 => ?_)
  · exact hH2.on hb3
  clear hK K
  try simp only [List.getElem_toArray, List.getElem_cons_zero, List.getElem_cons_succ, Act.put, List.setIfInBounds_toArray, List.set_cons_zero, List.set_cons_succ]
  refine wpAnyH_ready (rs := [8]) (by kernel_rfl) (by simp) ?_
  refine AllReadyH.cons rfl (fun K hK => ?_) AllReadyH.nil
  go_simp
  go_at_call 82; refine (sindex_any _ _ _ (hL.below hH3.2.2.2.2).maxl (by omega)).mono ?_; rintro e w4 ⟨rfl, rfl⟩; rw [hm.out]
  refine hK.out _ _ ?_ (fun hH4 => ?_)
  · exact hH3
  clear hK K
  try simp only [List.getElem_toArray, List.getElem_cons_zero, List.getElem_cons_succ, Act.put, List.setIfInBounds_toArray, List.set_cons_zero, List.set_cons_succ]
  refine wpAnyH_take (i := 9) (v := ?_) rfl (by kernel_rfl) (by kernel_rfl) (by kernel_rfl) (fun _ _ _ h => h) (Or.inl ⟨by rfl, ?_⟩) hH4 ?_
  rotate_left
  · (intro W hSw; (try dsimp only at hSw); go_simp; try with_reducible rfl)
  try simp only [List.getElem_toArray, List.getElem_cons_zero, List.getElem_cons_succ, Act.put, List.setIfInBounds_toArray, List.set_cons_zero, List.set_cons_succ]
  refine wpAnyH_ready (rs := [10]) (by kernel_rfl) (by simp) ?_
  refine AllReadyH.cons rfl (fun K hK => ?_) AllReadyH.nil
  go_simp
  go_at_call 81; refine (vint_any _ _).mono ?_; rintro e w5 ⟨rfl, hb5⟩
  refine hK.out _ _ ?_ (fun hH5 => ?_)
  · exact hH4.on hb5
  clear hK K
  try simp only [List.getElem_toArray, List.getElem_cons_zero, List.getElem_cons_succ, Act.put, List.setIfInBounds_toArray, List.set_cons_zero, List.set_cons_succ]
  obtain ⟨xr, yr, zr, hR5⟩ := hH5.2.2.1
  obtain ⟨a0, a1, a2, a3, a4, a5⟩ := hR5.cells
  refine wpAnyH_ready (rs := [11]) (by kernel_rfl) (by simp) ?_
  refine AllReadyH.cons rfl (fun K hK => ?_) AllReadyH.nil
  go_simp
  refine hK.out _ _ ?_ (fun hH6 => ?_)
  · exact hH5.put _ _ _
  clear hK K
  try simp only [List.getElem_toArray, List.getElem_cons_zero, List.getElem_cons_succ, Act.put, List.setIfInBounds_toArray, List.set_cons_zero, List.set_cons_succ]
  refine wpAnyH_done (by kernel_rfl) ?_ _
  go_wp2
  exact bodyPost_ret (v := .agg #[.int .i64 1, .int .i64 (m + 1), .string ⟨#[]⟩]) (by simp only [results, Tryz.results80]; go_simp) rfl ⟨rfl, hH6.2.2.2.2⟩

set_option maxHeartbeats 2000000 in
theorem nullif_null (c : Int) (b off N cap : Nat) (k n : Int) (t : ByteArray) (k1 n1 : Int) (t1 : ByteArray) (w : World) (hN : 1 < N) (h0 : VAt w b off k n t) (h1 : VAt w b (off + 3) k1 n1 t1) (q : (k1 != 0) = false) :
    Calls Tryz.prog 89 #[.int .i64 c, .slice (some ⟨b, off, none⟩) N cap] w (VRet k n t w) := by
  have hb0 := below_new w (.cells #[.int .i64 0, .int .i64 0, .string ⟨#[]⟩] 25)
  have hR0 := V3.new w 0 0 ⟨#[]⟩
  have n0 : 0 < N := by omega
  have i0 : (0 : Int) < (N : Int) := by omega
  have i1 : (1 : Int) < (N : Int) := by omega
  have hbw := h0.2.2.2
  have hT0 : Two w (w.alloc (.cells #[.int .i64 0, .int .i64 0, .string ⟨#[]⟩] 25)).drew b off k n t k1 n1 t1 := by
    have h0' := h0.on hb0
    have h1' := h1.on hb0
    exact ⟨⟨h0'.1, h0'.2.1, h0'.2.2.1, h0'.2.2.2⟩, ⟨h1'.1, h1'.2.1, h1'.2.2.1, h1'.2.2.2⟩, ⟨_, _, _, hR0⟩, hbw, hb0.drew⟩
  clear h0 h1
  go_enter Tryz.func89, Tryz.ntmps89
  go_wp2_with fail
  obtain ⟨W1, hW1⟩ : ∃ W, (w.alloc (.cells #[.int .i64 0, .int .i64 0, .string ⟨#[]⟩] 25)).drew = W := ⟨_, rfl⟩
  rw [hW1] at hT0
  refine wp_region_held_drew (S := fun W => Two w W b off k n t k1 n1 t1) (by kernel_rfl) ?_ (fun hH => ?_)
  · rw [hW1]; exact hT0
  rw [hW1] at hH ⊢
  clear hW1 hT0 hR0 hb0
  refine wpAnyH_take (i := 0) (v := ?_) rfl (by kernel_rfl) (by kernel_rfl) (by kernel_rfl) (fun _ _ _ h => h) (Or.inl ⟨by rfl, ?_⟩) hH ?_
  rotate_left
  · (intro W hSw; (try dsimp only at hSw); go_simp; try with_reducible rfl)
  try simp only [List.getElem_toArray, List.getElem_cons_zero, List.getElem_cons_succ, Act.put, List.setIfInBounds_toArray, List.set_cons_zero, List.set_cons_succ]
  refine wpAnyH_take (i := 1) (v := ?_) rfl (by kernel_rfl) (by kernel_rfl) (by kernel_rfl) (fun _ _ _ h => h) (Or.inl ⟨by rfl, ?_⟩) hH ?_
  rotate_left
  · (intro W hSw; (try dsimp only at hSw); go_simp; try with_reducible rfl)
  try simp only [List.getElem_toArray, List.getElem_cons_zero, List.getElem_cons_succ, Act.put, List.setIfInBounds_toArray, List.set_cons_zero, List.set_cons_succ]
  refine wpAnyH_take (i := 2) (v := ?_) rfl (by kernel_rfl) (by kernel_rfl) (by kernel_rfl) (fun _ _ _ h => h) (Or.inl ⟨by rfl, ?_⟩) hH ?_
  rotate_left
  · (intro W hSw; (try dsimp only at hSw); go_simp; try with_reducible rfl)
  try simp only [List.getElem_toArray, List.getElem_cons_zero, List.getElem_cons_succ, Act.put, List.setIfInBounds_toArray, List.set_cons_zero, List.set_cons_succ]
  refine wpAnyH_take (i := 3) (v := ?_) rfl (by kernel_rfl) (by kernel_rfl) (by kernel_rfl) (fun _ _ _ h => h) (Or.inl ⟨by rfl, ?_⟩) hH ?_
  rotate_left
  · (intro W hSw; (try dsimp only at hSw); obtain ⟨z0, z1, z2, z3⟩ := hSw.1; obtain ⟨y0, y1, y2, y3⟩ := hSw.2.1; go_simp; try with_reducible rfl)
  try simp only [List.getElem_toArray, List.getElem_cons_zero, List.getElem_cons_succ, Act.put, List.setIfInBounds_toArray, List.set_cons_zero, List.set_cons_succ]
  refine wpAnyH_take (i := 4) (v := ?_) rfl (by kernel_rfl) (by kernel_rfl) (by kernel_rfl) (fun _ _ _ h => h) (Or.inl ⟨by rfl, ?_⟩) hH ?_
  rotate_left
  · (intro W hSw; (try dsimp only at hSw); go_simp; try with_reducible rfl)
  try simp only [List.getElem_toArray, List.getElem_cons_zero, List.getElem_cons_succ, Act.put, List.setIfInBounds_toArray, List.set_cons_zero, List.set_cons_succ]
  refine wpAnyH_take (i := 5) (v := ?_) rfl (by kernel_rfl) (by kernel_rfl) (by kernel_rfl) (fun _ _ _ h => h) (Or.inl ⟨by rfl, ?_⟩) hH ?_
  rotate_left
  · (intro W hSw; (try dsimp only at hSw); go_simp; try with_reducible rfl)
  try simp only [List.getElem_toArray, List.getElem_cons_zero, List.getElem_cons_succ, Act.put, List.setIfInBounds_toArray, List.set_cons_zero, List.set_cons_succ]
  refine wpAnyH_take (i := 6) (v := undef) rfl (by kernel_rfl) (by kernel_rfl) (by kernel_rfl) (fun _ _ _ h => h) (Or.inr ⟨by rfl, rfl⟩) hH ?_
  try simp only [List.getElem_toArray, List.getElem_cons_zero, List.getElem_cons_succ, Act.put, List.setIfInBounds_toArray, List.set_cons_zero, List.set_cons_succ]
  refine wpAnyH_take (i := 7) (v := undef) rfl (by kernel_rfl) (by kernel_rfl) (by kernel_rfl) (fun _ _ _ h => h) (Or.inr ⟨by rfl, rfl⟩) hH ?_
  try simp only [List.getElem_toArray, List.getElem_cons_zero, List.getElem_cons_succ, Act.put, List.setIfInBounds_toArray, List.set_cons_zero, List.set_cons_succ]
  refine wpAnyH_take (i := 8) (v := undef) rfl (by kernel_rfl) (by kernel_rfl) (by kernel_rfl) (fun _ _ _ h => h) (Or.inr ⟨by rfl, rfl⟩) hH ?_
  try simp only [List.getElem_toArray, List.getElem_cons_zero, List.getElem_cons_succ, Act.put, List.setIfInBounds_toArray, List.set_cons_zero, List.set_cons_succ]
  refine wpAnyH_take (i := 9) (v := undef) rfl (by kernel_rfl) (by kernel_rfl) (by kernel_rfl) (fun _ _ _ h => h) (Or.inr ⟨by rfl, rfl⟩) hH ?_
  try simp only [List.getElem_toArray, List.getElem_cons_zero, List.getElem_cons_succ, Act.put, List.setIfInBounds_toArray, List.set_cons_zero, List.set_cons_succ]
  refine wpAnyH_take (i := 10) (v := undef) rfl (by kernel_rfl) (by kernel_rfl) (by kernel_rfl) (fun _ _ _ h => h) (Or.inr ⟨by rfl, rfl⟩) hH ?_
  try simp only [List.getElem_toArray, List.getElem_cons_zero, List.getElem_cons_succ, Act.put, List.setIfInBounds_toArray, List.set_cons_zero, List.set_cons_succ]
  refine wpAnyH_take (i := 11) (v := undef) rfl (by kernel_rfl) (by kernel_rfl) (by kernel_rfl) (fun _ _ _ h => h) (Or.inr ⟨by rfl, rfl⟩) hH ?_
  try simp only [List.getElem_toArray, List.getElem_cons_zero, List.getElem_cons_succ, Act.put, List.setIfInBounds_toArray, List.set_cons_zero, List.set_cons_succ]
  refine wpAnyH_take (i := 12) (v := undef) rfl (by kernel_rfl) (by kernel_rfl) (by kernel_rfl) (fun _ _ _ h => h) (Or.inr ⟨by rfl, rfl⟩) hH ?_
  try simp only [List.getElem_toArray, List.getElem_cons_zero, List.getElem_cons_succ, Act.put, List.setIfInBounds_toArray, List.set_cons_zero, List.set_cons_succ]
  refine wpAnyH_take (i := 13) (v := undef) rfl (by kernel_rfl) (by kernel_rfl) (by kernel_rfl) (fun _ _ _ h => h) (Or.inr ⟨by rfl, rfl⟩) hH ?_
  try simp only [List.getElem_toArray, List.getElem_cons_zero, List.getElem_cons_succ, Act.put, List.setIfInBounds_toArray, List.set_cons_zero, List.set_cons_succ]
  refine wpAnyH_take (i := 14) (v := undef) rfl (by kernel_rfl) (by kernel_rfl) (by kernel_rfl) (fun _ _ _ h => h) (Or.inr ⟨by rfl, rfl⟩) hH ?_
  try simp only [List.getElem_toArray, List.getElem_cons_zero, List.getElem_cons_succ, Act.put, List.setIfInBounds_toArray, List.set_cons_zero, List.set_cons_succ]
  refine wpAnyH_take (i := 15) (v := ?_) rfl (by kernel_rfl) (by kernel_rfl) (by kernel_rfl) (fun _ _ _ h => h) (Or.inl ⟨by rfl, ?_⟩) hH ?_
  rotate_left
  · (intro W hSw; (try dsimp only at hSw); go_simp; try with_reducible rfl)
  try simp only [List.getElem_toArray, List.getElem_cons_zero, List.getElem_cons_succ, Act.put, List.setIfInBounds_toArray, List.set_cons_zero, List.set_cons_succ]
  refine wpAnyH_done (by kernel_rfl) ?_ _
  obtain ⟨xr, yr, zr, hR5⟩ := hH.2.2.1
  obtain ⟨a0, a1, a2, a3, a4, a5⟩ := hR5.cells
  obtain ⟨z0, z1, z2, z3⟩ := hH.1
  go_wp2
  exact bodyPost_ret (v := .agg #[.int .i64 k, .int .i64 n, .string t]) (by simp only [results, Tryz.results89]; go_simp) rfl ⟨rfl, below_put hH.2.2.2.2 (Nat.le_refl _)⟩

set_option maxHeartbeats 2000000 in
theorem nullif_same (c : Int) (b off N cap : Nat) (k n : Int) (t : ByteArray) (k1 n1 : Int) (t1 : ByteArray) (w : World) (hN : 1 < N) (h0 : VAt w b off k n t) (h1 : VAt w b (off + 3) k1 n1 t1) (q : (k1 != 0) = true) (hs : t.size ≤ 1048576) (hs1 : t1.size ≤ 1048576) (r : Int) (hr : Hid (Val.cmp ⟨k, n, t.data.toList⟩ ⟨k1, n1, t1.data.toList⟩ c = r)) (q2 : (r == 0) = true) :
    Calls Tryz.prog 89 #[.int .i64 c, .slice (some ⟨b, off, none⟩) N cap] w (VRet 0 0 ⟨#[]⟩ w) := by
  have hb0 := below_new w (.cells #[.int .i64 0, .int .i64 0, .string ⟨#[]⟩] 25)
  have hR0 := V3.new w 0 0 ⟨#[]⟩
  have n0 : 0 < N := by omega
  have i0 : (0 : Int) < (N : Int) := by omega
  have i1 : (1 : Int) < (N : Int) := by omega
  have hbw := h0.2.2.2
  have hT0 : Two w (w.alloc (.cells #[.int .i64 0, .int .i64 0, .string ⟨#[]⟩] 25)).drew b off k n t k1 n1 t1 := by
    have h0' := h0.on hb0
    have h1' := h1.on hb0
    exact ⟨⟨h0'.1, h0'.2.1, h0'.2.2.1, h0'.2.2.2⟩, ⟨h1'.1, h1'.2.1, h1'.2.2.1, h1'.2.2.2⟩, ⟨_, _, _, hR0⟩, hbw, hb0.drew⟩
  clear h0 h1
  go_enter Tryz.func89, Tryz.ntmps89
  go_wp2_with fail
  obtain ⟨W1, hW1⟩ : ∃ W, (w.alloc (.cells #[.int .i64 0, .int .i64 0, .string ⟨#[]⟩] 25)).drew = W := ⟨_, rfl⟩
  rw [hW1] at hT0
  refine wp_region_held_drew (S := fun W => Two w W b off k n t k1 n1 t1) (by kernel_rfl) ?_ (fun hH => ?_)
  · rw [hW1]; exact hT0
  rw [hW1] at hH ⊢
  clear hW1 hT0 hR0 hb0
  refine wpAnyH_take (i := 0) (v := ?_) rfl (by kernel_rfl) (by kernel_rfl) (by kernel_rfl) (fun _ _ _ h => h) (Or.inl ⟨by rfl, ?_⟩) hH ?_
  rotate_left
  · (intro W hSw; (try dsimp only at hSw); go_simp; try with_reducible rfl)
  try simp only [List.getElem_toArray, List.getElem_cons_zero, List.getElem_cons_succ, Act.put, List.setIfInBounds_toArray, List.set_cons_zero, List.set_cons_succ]
  refine wpAnyH_take (i := 1) (v := ?_) rfl (by kernel_rfl) (by kernel_rfl) (by kernel_rfl) (fun _ _ _ h => h) (Or.inl ⟨by rfl, ?_⟩) hH ?_
  rotate_left
  · (intro W hSw; (try dsimp only at hSw); go_simp; try with_reducible rfl)
  try simp only [List.getElem_toArray, List.getElem_cons_zero, List.getElem_cons_succ, Act.put, List.setIfInBounds_toArray, List.set_cons_zero, List.set_cons_succ]
  refine wpAnyH_take (i := 2) (v := ?_) rfl (by kernel_rfl) (by kernel_rfl) (by kernel_rfl) (fun _ _ _ h => h) (Or.inl ⟨by rfl, ?_⟩) hH ?_
  rotate_left
  · (intro W hSw; (try dsimp only at hSw); go_simp; try with_reducible rfl)
  try simp only [List.getElem_toArray, List.getElem_cons_zero, List.getElem_cons_succ, Act.put, List.setIfInBounds_toArray, List.set_cons_zero, List.set_cons_succ]
  refine wpAnyH_take (i := 3) (v := ?_) rfl (by kernel_rfl) (by kernel_rfl) (by kernel_rfl) (fun _ _ _ h => h) (Or.inl ⟨by rfl, ?_⟩) hH ?_
  rotate_left
  · (intro W hSw; (try dsimp only at hSw); obtain ⟨z0, z1, z2, z3⟩ := hSw.1; obtain ⟨y0, y1, y2, y3⟩ := hSw.2.1; go_simp; try with_reducible rfl)
  try simp only [List.getElem_toArray, List.getElem_cons_zero, List.getElem_cons_succ, Act.put, List.setIfInBounds_toArray, List.set_cons_zero, List.set_cons_succ]
  refine wpAnyH_take (i := 4) (v := ?_) rfl (by kernel_rfl) (by kernel_rfl) (by kernel_rfl) (fun _ _ _ h => h) (Or.inl ⟨by rfl, ?_⟩) hH ?_
  rotate_left
  · (intro W hSw; (try dsimp only at hSw); go_simp; try with_reducible rfl)
  try simp only [List.getElem_toArray, List.getElem_cons_zero, List.getElem_cons_succ, Act.put, List.setIfInBounds_toArray, List.set_cons_zero, List.set_cons_succ]
  refine wpAnyH_take (i := 5) (v := ?_) rfl (by kernel_rfl) (by kernel_rfl) (by kernel_rfl) (fun _ _ _ h => h) (Or.inl ⟨by rfl, ?_⟩) hH ?_
  rotate_left
  · (intro W hSw; (try dsimp only at hSw); go_simp; try with_reducible rfl)
  try simp only [List.getElem_toArray, List.getElem_cons_zero, List.getElem_cons_succ, Act.put, List.setIfInBounds_toArray, List.set_cons_zero, List.set_cons_succ]
  refine wpAnyH_take (i := 6) (v := ?_) rfl (by kernel_rfl) (by kernel_rfl) (by kernel_rfl) (fun _ _ _ h => h) (Or.inl ⟨by rfl, ?_⟩) hH ?_
  rotate_left
  · (intro W hSw; (try dsimp only at hSw); go_simp; try with_reducible rfl)
  try simp only [List.getElem_toArray, List.getElem_cons_zero, List.getElem_cons_succ, Act.put, List.setIfInBounds_toArray, List.set_cons_zero, List.set_cons_succ]
  refine wpAnyH_take (i := 7) (v := ?_) rfl (by kernel_rfl) (by kernel_rfl) (by kernel_rfl) (fun _ _ _ h => h) (Or.inl ⟨by rfl, ?_⟩) hH ?_
  rotate_left
  · (intro W hSw; (try dsimp only at hSw); go_simp; try with_reducible rfl)
  try simp only [List.getElem_toArray, List.getElem_cons_zero, List.getElem_cons_succ, Act.put, List.setIfInBounds_toArray, List.set_cons_zero, List.set_cons_succ]
  refine wpAnyH_take (i := 8) (v := ?_) rfl (by kernel_rfl) (by kernel_rfl) (by kernel_rfl) (fun _ _ _ h => h) (Or.inl ⟨by rfl, ?_⟩) hH ?_
  rotate_left
  · (intro W hSw; (try dsimp only at hSw); obtain ⟨z0, z1, z2, z3⟩ := hSw.1; obtain ⟨y0, y1, y2, y3⟩ := hSw.2.1; go_simp; try with_reducible rfl)
  try simp only [List.getElem_toArray, List.getElem_cons_zero, List.getElem_cons_succ, Act.put, List.setIfInBounds_toArray, List.set_cons_zero, List.set_cons_succ]
  refine wpAnyH_take (i := 9) (v := ?_) rfl (by kernel_rfl) (by kernel_rfl) (by kernel_rfl) (fun _ _ _ h => h) (Or.inl ⟨by rfl, ?_⟩) hH ?_
  rotate_left
  · (intro W hSw; (try dsimp only at hSw); go_simp; try with_reducible rfl)
  try simp only [List.getElem_toArray, List.getElem_cons_zero, List.getElem_cons_succ, Act.put, List.setIfInBounds_toArray, List.set_cons_zero, List.set_cons_succ]
  refine wpAnyH_take (i := 10) (v := ?_) rfl (by kernel_rfl) (by kernel_rfl) (by kernel_rfl) (fun _ _ _ h => h) (Or.inl ⟨by rfl, ?_⟩) hH ?_
  rotate_left
  · (intro W hSw; (try dsimp only at hSw); go_simp; try with_reducible rfl)
  try simp only [List.getElem_toArray, List.getElem_cons_zero, List.getElem_cons_succ, Act.put, List.setIfInBounds_toArray, List.set_cons_zero, List.set_cons_succ]
  refine wpAnyH_take (i := 11) (v := ?_) rfl (by kernel_rfl) (by kernel_rfl) (by kernel_rfl) (fun _ _ _ h => h) (Or.inl ⟨by rfl, ?_⟩) hH ?_
  rotate_left
  · (intro W hSw; (try dsimp only at hSw); obtain ⟨z0, z1, z2, z3⟩ := hSw.1; obtain ⟨y0, y1, y2, y3⟩ := hSw.2.1; go_simp; try with_reducible rfl)
  try simp only [List.getElem_toArray, List.getElem_cons_zero, List.getElem_cons_succ, Act.put, List.setIfInBounds_toArray, List.set_cons_zero, List.set_cons_succ]
  refine wpAnyH_take (i := 12) (v := ?_) rfl (by kernel_rfl) (by kernel_rfl) (by kernel_rfl) (fun _ _ _ h => h) (Or.inl ⟨by rfl, ?_⟩) hH ?_
  rotate_left
  · (intro W hSw; (try dsimp only at hSw); go_simp; try with_reducible rfl)
  try simp only [List.getElem_toArray, List.getElem_cons_zero, List.getElem_cons_succ, Act.put, List.setIfInBounds_toArray, List.set_cons_zero, List.set_cons_succ]
  refine wpAnyH_ready (rs := [13]) (by kernel_rfl) (by simp) ?_
  refine AllReadyH.cons rfl (fun K hK => ?_) AllReadyH.nil
  go_simp
  go_at_call 90; refine (vcmp_is _ _ _ _ _ _ _ _ hs hs1 _ hr).mono ?_; rintro e w2 ⟨rfl, hb2⟩
  refine hK.out _ _ ?_ (fun hH2 => ?_)
  · exact hH.on hb2
  clear hK K
  try simp only [List.getElem_toArray, List.getElem_cons_zero, List.getElem_cons_succ, Act.put, List.setIfInBounds_toArray, List.set_cons_zero, List.set_cons_succ]
  refine wpAnyH_take (i := 14) (v := ?_) rfl (by kernel_rfl) (by kernel_rfl) (by kernel_rfl) (fun _ _ _ h => h) (Or.inl ⟨by rfl, ?_⟩) hH2 ?_
  rotate_left
  · (intro W hSw; (try dsimp only at hSw); go_simp; try with_reducible rfl)
  try simp only [List.getElem_toArray, List.getElem_cons_zero, List.getElem_cons_succ, Act.put, List.setIfInBounds_toArray, List.set_cons_zero, List.set_cons_succ]
  refine wpAnyH_take (i := 15) (v := ?_) rfl (by kernel_rfl) (by kernel_rfl) (by kernel_rfl) (fun _ _ _ h => h) (Or.inl ⟨by rfl, ?_⟩) hH2 ?_
  rotate_left
  · (intro W hSw; (try dsimp only at hSw); go_simp; try with_reducible rfl)
  try simp only [List.getElem_toArray, List.getElem_cons_zero, List.getElem_cons_succ, Act.put, List.setIfInBounds_toArray, List.set_cons_zero, List.set_cons_succ]
  refine wpAnyH_done (by kernel_rfl) ?_ _
  obtain ⟨xr, yr, zr, hR5⟩ := hH2.2.2.1
  obtain ⟨a0, a1, a2, a3, a4, a5⟩ := hR5.cells
  obtain ⟨z0, z1, z2, z3⟩ := hH2.1
  go_wp2
  exact bodyPost_ret (v := .agg #[.int .i64 0, .int .i64 0, .string ⟨#[]⟩]) (by simp only [results, Tryz.results89]; go_simp) rfl ⟨rfl, below_put hH2.2.2.2.2 (Nat.le_refl _)⟩

set_option maxHeartbeats 2000000 in
theorem nullif_other (c : Int) (b off N cap : Nat) (k n : Int) (t : ByteArray) (k1 n1 : Int) (t1 : ByteArray) (w : World) (hN : 1 < N) (h0 : VAt w b off k n t) (h1 : VAt w b (off + 3) k1 n1 t1) (q : (k1 != 0) = true) (hs : t.size ≤ 1048576) (hs1 : t1.size ≤ 1048576) (r : Int) (hr : Hid (Val.cmp ⟨k, n, t.data.toList⟩ ⟨k1, n1, t1.data.toList⟩ c = r)) (q2 : (r == 0) = false) :
    Calls Tryz.prog 89 #[.int .i64 c, .slice (some ⟨b, off, none⟩) N cap] w (VRet k n t w) := by
  have hb0 := below_new w (.cells #[.int .i64 0, .int .i64 0, .string ⟨#[]⟩] 25)
  have hR0 := V3.new w 0 0 ⟨#[]⟩
  have n0 : 0 < N := by omega
  have i0 : (0 : Int) < (N : Int) := by omega
  have i1 : (1 : Int) < (N : Int) := by omega
  have hbw := h0.2.2.2
  have hT0 : Two w (w.alloc (.cells #[.int .i64 0, .int .i64 0, .string ⟨#[]⟩] 25)).drew b off k n t k1 n1 t1 := by
    have h0' := h0.on hb0
    have h1' := h1.on hb0
    exact ⟨⟨h0'.1, h0'.2.1, h0'.2.2.1, h0'.2.2.2⟩, ⟨h1'.1, h1'.2.1, h1'.2.2.1, h1'.2.2.2⟩, ⟨_, _, _, hR0⟩, hbw, hb0.drew⟩
  clear h0 h1
  go_enter Tryz.func89, Tryz.ntmps89
  go_wp2_with fail
  obtain ⟨W1, hW1⟩ : ∃ W, (w.alloc (.cells #[.int .i64 0, .int .i64 0, .string ⟨#[]⟩] 25)).drew = W := ⟨_, rfl⟩
  rw [hW1] at hT0
  refine wp_region_held_drew (S := fun W => Two w W b off k n t k1 n1 t1) (by kernel_rfl) ?_ (fun hH => ?_)
  · rw [hW1]; exact hT0
  rw [hW1] at hH ⊢
  clear hW1 hT0 hR0 hb0
  refine wpAnyH_take (i := 0) (v := ?_) rfl (by kernel_rfl) (by kernel_rfl) (by kernel_rfl) (fun _ _ _ h => h) (Or.inl ⟨by rfl, ?_⟩) hH ?_
  rotate_left
  · (intro W hSw; (try dsimp only at hSw); go_simp; try with_reducible rfl)
  try simp only [List.getElem_toArray, List.getElem_cons_zero, List.getElem_cons_succ, Act.put, List.setIfInBounds_toArray, List.set_cons_zero, List.set_cons_succ]
  refine wpAnyH_take (i := 1) (v := ?_) rfl (by kernel_rfl) (by kernel_rfl) (by kernel_rfl) (fun _ _ _ h => h) (Or.inl ⟨by rfl, ?_⟩) hH ?_
  rotate_left
  · (intro W hSw; (try dsimp only at hSw); go_simp; try with_reducible rfl)
  try simp only [List.getElem_toArray, List.getElem_cons_zero, List.getElem_cons_succ, Act.put, List.setIfInBounds_toArray, List.set_cons_zero, List.set_cons_succ]
  refine wpAnyH_take (i := 2) (v := ?_) rfl (by kernel_rfl) (by kernel_rfl) (by kernel_rfl) (fun _ _ _ h => h) (Or.inl ⟨by rfl, ?_⟩) hH ?_
  rotate_left
  · (intro W hSw; (try dsimp only at hSw); go_simp; try with_reducible rfl)
  try simp only [List.getElem_toArray, List.getElem_cons_zero, List.getElem_cons_succ, Act.put, List.setIfInBounds_toArray, List.set_cons_zero, List.set_cons_succ]
  refine wpAnyH_take (i := 3) (v := ?_) rfl (by kernel_rfl) (by kernel_rfl) (by kernel_rfl) (fun _ _ _ h => h) (Or.inl ⟨by rfl, ?_⟩) hH ?_
  rotate_left
  · (intro W hSw; (try dsimp only at hSw); obtain ⟨z0, z1, z2, z3⟩ := hSw.1; obtain ⟨y0, y1, y2, y3⟩ := hSw.2.1; go_simp; try with_reducible rfl)
  try simp only [List.getElem_toArray, List.getElem_cons_zero, List.getElem_cons_succ, Act.put, List.setIfInBounds_toArray, List.set_cons_zero, List.set_cons_succ]
  refine wpAnyH_take (i := 4) (v := ?_) rfl (by kernel_rfl) (by kernel_rfl) (by kernel_rfl) (fun _ _ _ h => h) (Or.inl ⟨by rfl, ?_⟩) hH ?_
  rotate_left
  · (intro W hSw; (try dsimp only at hSw); go_simp; try with_reducible rfl)
  try simp only [List.getElem_toArray, List.getElem_cons_zero, List.getElem_cons_succ, Act.put, List.setIfInBounds_toArray, List.set_cons_zero, List.set_cons_succ]
  refine wpAnyH_take (i := 5) (v := ?_) rfl (by kernel_rfl) (by kernel_rfl) (by kernel_rfl) (fun _ _ _ h => h) (Or.inl ⟨by rfl, ?_⟩) hH ?_
  rotate_left
  · (intro W hSw; (try dsimp only at hSw); go_simp; try with_reducible rfl)
  try simp only [List.getElem_toArray, List.getElem_cons_zero, List.getElem_cons_succ, Act.put, List.setIfInBounds_toArray, List.set_cons_zero, List.set_cons_succ]
  refine wpAnyH_take (i := 6) (v := ?_) rfl (by kernel_rfl) (by kernel_rfl) (by kernel_rfl) (fun _ _ _ h => h) (Or.inl ⟨by rfl, ?_⟩) hH ?_
  rotate_left
  · (intro W hSw; (try dsimp only at hSw); go_simp; try with_reducible rfl)
  try simp only [List.getElem_toArray, List.getElem_cons_zero, List.getElem_cons_succ, Act.put, List.setIfInBounds_toArray, List.set_cons_zero, List.set_cons_succ]
  refine wpAnyH_take (i := 7) (v := ?_) rfl (by kernel_rfl) (by kernel_rfl) (by kernel_rfl) (fun _ _ _ h => h) (Or.inl ⟨by rfl, ?_⟩) hH ?_
  rotate_left
  · (intro W hSw; (try dsimp only at hSw); go_simp; try with_reducible rfl)
  try simp only [List.getElem_toArray, List.getElem_cons_zero, List.getElem_cons_succ, Act.put, List.setIfInBounds_toArray, List.set_cons_zero, List.set_cons_succ]
  refine wpAnyH_take (i := 8) (v := ?_) rfl (by kernel_rfl) (by kernel_rfl) (by kernel_rfl) (fun _ _ _ h => h) (Or.inl ⟨by rfl, ?_⟩) hH ?_
  rotate_left
  · (intro W hSw; (try dsimp only at hSw); obtain ⟨z0, z1, z2, z3⟩ := hSw.1; obtain ⟨y0, y1, y2, y3⟩ := hSw.2.1; go_simp; try with_reducible rfl)
  try simp only [List.getElem_toArray, List.getElem_cons_zero, List.getElem_cons_succ, Act.put, List.setIfInBounds_toArray, List.set_cons_zero, List.set_cons_succ]
  refine wpAnyH_take (i := 9) (v := ?_) rfl (by kernel_rfl) (by kernel_rfl) (by kernel_rfl) (fun _ _ _ h => h) (Or.inl ⟨by rfl, ?_⟩) hH ?_
  rotate_left
  · (intro W hSw; (try dsimp only at hSw); go_simp; try with_reducible rfl)
  try simp only [List.getElem_toArray, List.getElem_cons_zero, List.getElem_cons_succ, Act.put, List.setIfInBounds_toArray, List.set_cons_zero, List.set_cons_succ]
  refine wpAnyH_take (i := 10) (v := ?_) rfl (by kernel_rfl) (by kernel_rfl) (by kernel_rfl) (fun _ _ _ h => h) (Or.inl ⟨by rfl, ?_⟩) hH ?_
  rotate_left
  · (intro W hSw; (try dsimp only at hSw); go_simp; try with_reducible rfl)
  try simp only [List.getElem_toArray, List.getElem_cons_zero, List.getElem_cons_succ, Act.put, List.setIfInBounds_toArray, List.set_cons_zero, List.set_cons_succ]
  refine wpAnyH_take (i := 11) (v := ?_) rfl (by kernel_rfl) (by kernel_rfl) (by kernel_rfl) (fun _ _ _ h => h) (Or.inl ⟨by rfl, ?_⟩) hH ?_
  rotate_left
  · (intro W hSw; (try dsimp only at hSw); obtain ⟨z0, z1, z2, z3⟩ := hSw.1; obtain ⟨y0, y1, y2, y3⟩ := hSw.2.1; go_simp; try with_reducible rfl)
  try simp only [List.getElem_toArray, List.getElem_cons_zero, List.getElem_cons_succ, Act.put, List.setIfInBounds_toArray, List.set_cons_zero, List.set_cons_succ]
  refine wpAnyH_take (i := 12) (v := ?_) rfl (by kernel_rfl) (by kernel_rfl) (by kernel_rfl) (fun _ _ _ h => h) (Or.inl ⟨by rfl, ?_⟩) hH ?_
  rotate_left
  · (intro W hSw; (try dsimp only at hSw); go_simp; try with_reducible rfl)
  try simp only [List.getElem_toArray, List.getElem_cons_zero, List.getElem_cons_succ, Act.put, List.setIfInBounds_toArray, List.set_cons_zero, List.set_cons_succ]
  refine wpAnyH_ready (rs := [13]) (by kernel_rfl) (by simp) ?_
  refine AllReadyH.cons rfl (fun K hK => ?_) AllReadyH.nil
  go_simp
  go_at_call 90; refine (vcmp_is _ _ _ _ _ _ _ _ hs hs1 _ hr).mono ?_; rintro e w2 ⟨rfl, hb2⟩
  refine hK.out _ _ ?_ (fun hH2 => ?_)
  · exact hH.on hb2
  clear hK K
  try simp only [List.getElem_toArray, List.getElem_cons_zero, List.getElem_cons_succ, Act.put, List.setIfInBounds_toArray, List.set_cons_zero, List.set_cons_succ]
  refine wpAnyH_take (i := 14) (v := ?_) rfl (by kernel_rfl) (by kernel_rfl) (by kernel_rfl) (fun _ _ _ h => h) (Or.inl ⟨by rfl, ?_⟩) hH2 ?_
  rotate_left
  · (intro W hSw; (try dsimp only at hSw); go_simp; try with_reducible rfl)
  try simp only [List.getElem_toArray, List.getElem_cons_zero, List.getElem_cons_succ, Act.put, List.setIfInBounds_toArray, List.set_cons_zero, List.set_cons_succ]
  refine wpAnyH_take (i := 15) (v := ?_) rfl (by kernel_rfl) (by kernel_rfl) (by kernel_rfl) (fun _ _ _ h => h) (Or.inl ⟨by rfl, ?_⟩) hH2 ?_
  rotate_left
  · (intro W hSw; (try dsimp only at hSw); go_simp; try with_reducible rfl)
  try simp only [List.getElem_toArray, List.getElem_cons_zero, List.getElem_cons_succ, Act.put, List.setIfInBounds_toArray, List.set_cons_zero, List.set_cons_succ]
  refine wpAnyH_done (by kernel_rfl) ?_ _
  obtain ⟨xr, yr, zr, hR5⟩ := hH2.2.2.1
  obtain ⟨a0, a1, a2, a3, a4, a5⟩ := hR5.cells
  obtain ⟨z0, z1, z2, z3⟩ := hH2.1
  go_wp2
  exact bodyPost_ret (v := .agg #[.int .i64 k, .int .i64 n, .string t]) (by simp only [results, Tryz.results89]; go_simp) rfl ⟨rfl, below_put hH2.2.2.2.2 (Nat.le_refl _)⟩

end Go.Proofs.YtmkgalcojoeniaaGreatDoor

