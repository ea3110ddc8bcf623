/- A slice of values in memory that was there. -/
import Derived.Test.YtdapnemcdgjeeaaGreatDoorValW
import Derived.Deep.LoopGhost
set_option maxRecDepth 100000
set_option linter.unusedVariables false
set_option linter.unusedSimpArgs false
namespace Go.Proofs.YtdapnemcdgjeeaaGreatDoor
open Go.RowKit

/-- a slice of values in memory that was there -/
def ValsAt (W : World) (p : Option Addr) (N : Nat) (vs : List Val.V) : Prop :=
  vs.length = N ∧ (vs = [] ∨ ∃ b off, p = some ⟨b, off, none⟩ ∧ b < W.heap.size ∧ ∀ k v, vs[k]? = some v → W.cell? ⟨b, off + k * 3, none⟩ = some (.int .i64 v.kind) ∧ W.cell? ⟨b, off + k * 3 + 1, none⟩ = some (.int .i64 v.int) ∧ W.cell? ⟨b, off + k * 3 + 2, none⟩ = some (.string (bs v.text)))
theorem ValsAt.below {W W' : World} {p : Option Addr} {N : Nat} {vs : List Val.V} (h : ValsAt W p N vs) (hb : Below W.heap.size W W') : ValsAt W' p N vs := by
  obtain ⟨h1, h2⟩ := h
  refine ⟨h1, ?_⟩
  rcases h2 with h2 | ⟨b, off, rfl, hl, hc⟩
  · exact .inl h2
  · refine .inr ⟨b, off, rfl, Nat.lt_of_lt_of_le hl hb.size, fun k g hk => ?_⟩
    obtain ⟨c0, c1, c2⟩ := hc k g hk
    exact ⟨(hb.cell (p := ⟨b, _, none⟩) hl).trans c0, (hb.cell (p := ⟨b, _, none⟩) hl).trans c1, (hb.cell (p := ⟨b, _, none⟩) hl).trans c2⟩

/-- the cells of values -/
def valC (l : List Val.V) : List Value := l.flatMap fun v => [.int .i64 v.kind, .int .i64 v.int, .string (bs v.text)]
theorem valC_at (L : List Val.V) (k : Nat) (v : Val.V) (h : L[k]? = some v) : (valC L)[k * 3]? = some (.int .i64 v.kind) ∧ (valC L)[k * 3 + 1]? = some (.int .i64 v.int) ∧ (valC L)[k * 3 + 2]? = some (.string (bs v.text)) := by
  induction L generalizing k with
  | nil => simp at h
  | cons y L ih =>
    cases k with
    | zero => simp at h; subst h; exact ⟨rfl, rfl, rfl⟩
    | succ k =>
      have := ih k (by simpa using h)
      have e (m : Nat) : (valC (y :: L))[m + 3]? = (valC L)[m]? := rfl
      rw [show (k + 1) * 3 = k * 3 + 3 by omega, show k * 3 + 3 + 1 = k * 3 + 1 + 3 by omega, show k * 3 + 3 + 2 = k * 3 + 2 + 3 by omega, e, e, e]
      exact this
theorem valC_len (L : List Val.V) : (valC L).length = L.length * 3 := by
  induction L with
  | nil => rfl
  | cons y L ih =>
    have e : valC (y :: L) = [.int .i64 y.kind, .int .i64 y.int, .string (bs y.text)] ++ valC L := rfl
    rw [e, List.length_append, ih]; simp; omega
theorem valsAt_own {w : World} {B N c : Nat} {p : Option Addr} {L : List Val.V} (h : w.ownsRow B 33 3 (.slice p N c) N (valC L)) (hl : L.length = N) : ValsAt w p N L := by
  refine ⟨hl, ?_⟩
  by_cases h0 : N = 0
  · left; exact List.eq_nil_of_length_eq_zero (by omega)
  · right
    obtain ⟨g, cap, hf, _, hlt⟩ := h.form (by omega)
    simp only [Value.slice.injEq, true_and] at hf
    obtain ⟨rfl, rfl⟩ := hf
    refine ⟨g, 0, rfl, hlt, fun k v hk => ?_⟩
    have hkl : k < N := by rw [← hl]; exact (List.getElem?_eq_some_iff.1 hk).1
    obtain ⟨q0, q1, q2⟩ := valC_at L k v hk
    simp only [Nat.zero_add]
    exact ⟨(h.cellAt (k * 3) (by omega)).trans q0, (h.cellAt (k * 3 + 1) (by omega)).trans q1, (h.cellAt (k * 3 + 2) (by omega)).trans q2⟩

/-- may a row be: the error's number -/
def vcheck (vs : List Val.V) : Nat := if vs.all Val.may = true then (if 16 < vs.length then 3 else 0) else 2
theorem all_take {vs : List Val.V} {k : Nat} {v : Val.V} (h : (vs.take k).all Val.may = true) (hk : vs[k]? = some v) (hm : Val.may v = true) : (vs.take (k + 1)).all Val.may = true := by
  rw [List.take_add_one, hk, List.all_append, h]; simp [hm]
theorem all_not {vs : List Val.V} {k : Nat} {v : Val.V} (hk : vs[k]? = some v) (hm : Val.may v = false) : vs.all Val.may = false := by
  rw [List.all_eq_false]
  exact ⟨v, List.mem_of_getElem? hk, by rw [hm]; decide⟩

set_option maxHeartbeats 400000 in
theorem rcheck_any (p : Option Addr) (N c : Nat) (vs : List Val.V) (w : World) (hA : ValsAt w p N vs) (hN : N ≤ 1048576) :
    Calls Tryz.prog 22 #[.slice p N c] w fun e w' => e = .returned (.int .i64 (vcheck vs : Int)) ∧ Below w.heap.size w w' := by
  have hlen := hA.1
  replace hlen := Lib.hid hlen
  go_enter Tryz.func22, Tryz.ntmps22
  go_wp2
  go_loopw [3] (fun iv wr => ∃ k : Nat, iv = .int .i64 (k : Int) ∧ k ≤ N ∧ Hid ((vs.take k).all Val.may = true) ∧ Below w.heap.size w wr) (fun iv _ => N - (intOf iv).toNat)
  case atStart => exact ⟨0, by go_num, by omega, Lib.hid (by simp), Below.refl _ _⟩
  case round =>
    obtain ⟨k, rfl, hk, hall, hB⟩ := hrel
    by_cases hlt : k < N
    · obtain ⟨v, hv⟩ : ∃ v, vs[k]? = some v := ⟨_, List.getElem?_eq_getElem (by rw [hlen.out]; exact hlt)⟩
      rcases (hA.below hB).2 with h0 | ⟨b, off, rfl, hbl, hcell⟩
      · rw [h0] at hv; simp at hv
      · obtain ⟨c0, c1, c2⟩ := hcell k v hv
        obtain ⟨kd, n, tx⟩ := v
        obtain ⟨t, rfl⟩ : ∃ t : ByteArray, tx = t.data.toList := ⟨bs tx, rfl⟩
        rw [bs_of] at c2
        simp only at c0 c1 c2
        have b1 : w.heap.size ≤ wr.heap.size := hB.size
        have hlB : decide ((k : Int) < (N : Int)) = true := by simp; omega
        clear hcell
        cases hm : Val.may ⟨kd, n, t.data.toList⟩ with
        | false =>
          have hc : vcheck vs = 2 := by rw [vcheck, if_neg (by rw [all_not hv hm]; decide)]
          replace hm := Lib.hid hm
          replace hc := Lib.hid hc
          clear hv
          go_wp2_with (go_at_call 29; refine (rmay_is _ _ _ _ hm).mono ?_; rintro e w1 ⟨rfl, hb1⟩)
          go_ret
          exact ⟨by rw [hc.out]; rfl, hB.trans (hb1.mono b1)⟩
        | true =>
          have hnext := all_take hall.out hv hm
          replace hm := Lib.hid hm
          replace hnext := Lib.hid hnext
          clear hv
          go_wp2_with (go_at_call 29; refine (rmay_is _ _ _ _ hm).mono ?_; rintro e w1 ⟨rfl, hb1⟩)
          go_roundw
          case rel => exact ⟨k + 1, by go_num, by omega, hnext, hB.trans (hb1.mono b1)⟩
          case measure => simp [intOf]; omega
    · have hall2 : vs.all Val.may = true := by
        have := hall.out
        rwa [List.take_of_length_le (by rw [hlen.out]; omega)] at this
      have hlB : decide ((k : Int) < (N : Int)) = false := by simp; omega
      by_cases hb16 : 16 < N
      · have hc : vcheck vs = 3 := by rw [vcheck, if_pos hall2, if_pos (by rw [hlen.out]; omega)]
        have b1 : decide ((N : Int) > 16) = true := by simp; omega
        replace hc := Lib.hid hc
        clear hall2
        go_wp2
        go_ret
        exact ⟨by rw [hc.out]; rfl, hB⟩
      · have hc : vcheck vs = 0 := by rw [vcheck, if_pos hall2, if_neg (by rw [hlen.out]; omega)]
        have b1 : decide ((N : Int) > 16) = false := by simp; omega
        replace hc := Lib.hid hc
        clear hall2
        go_wp2
        go_ret
        exact ⟨by rw [hc.out]; rfl, hB⟩

end Go.Proofs.YtdapnemcdgjeeaaGreatDoor
