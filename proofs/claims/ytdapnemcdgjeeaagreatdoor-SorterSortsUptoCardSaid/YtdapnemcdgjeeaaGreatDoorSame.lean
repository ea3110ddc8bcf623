/- Walks: rows that are the same (the reference of layer 2). -/
import Derived.Test.YtdapnemcdgjeeaaGreatDoorRwsA
set_option maxRecDepth 100000
set_option linter.unusedVariables false
set_option linter.unusedSimpArgs false
namespace Go.Proofs.YtdapnemcdgjeeaaGreatDoor
open Go.RowKit

set_option maxHeartbeats 1000000 in
theorem sameRow_is (p : Option Addr) (N c : Nat) (q : Option Addr) (M c' : Nat) (va vb : List Val.V) (w : World) (hA : ValsAt w p N va) (hA' : ValsAt w q M vb) (hN : N ≤ 1048576) (b : Bool) (hb : Hid (decide (va = vb) = b)) :
    Calls Tryz.prog 34 #[.slice p N c, .slice q M c'] w fun e w' => e = .returned (.bool b) ∧ Below w.heap.size w w' := by
  have hla := hA.1
  have hlb := hA'.1
  by_cases hNM : N = M
  · subst hNM
    have hne : ((N : Int) != (N : Int)) = false := by simp
    replace hla := Lib.hid hla
    replace hlb := Lib.hid hlb
    go_enter Tryz.func34, Tryz.ntmps34
    go_wp2
    go_loopw [5] (fun iv wr => ∃ i : Nat, iv = .int .i64 (i : Int) ∧ i ≤ N ∧ Hid (va.take i = vb.take i) ∧ Below w.heap.size w wr) (fun iv _ => N - (intOf iv).toNat)
    case atStart => exact ⟨0, by go_num, by omega, Lib.hid rfl, Below.refl _ _⟩
    case round =>
      obtain ⟨i, rfl, hi, hq, hB⟩ := hrel
      by_cases hlt : i < N
      · have hlB : decide ((i : Int) < (N : Int)) = true := by simp; omega
        obtain ⟨v, hv⟩ : ∃ v, va[i]? = some v := ⟨_, List.getElem?_eq_getElem (by rw [hla.out]; exact hlt)⟩
        obtain ⟨u, hu⟩ : ∃ u, vb[i]? = some u := ⟨_, List.getElem?_eq_getElem (by rw [hlb.out]; exact hlt)⟩
        rcases (hA.below hB).2 with h0 | ⟨b1, off, rfl, hbl, hcell⟩
        · rw [h0] at hv; simp at hv
        rcases (hA'.below hB).2 with h0 | ⟨b2, off', rfl, hbl', hcell'⟩
        · rw [h0] at hu; simp at hu
        obtain ⟨c0, c1, c2⟩ := hcell i v hv
        obtain ⟨d0, d1, d2⟩ := hcell' i u hu
        obtain ⟨ka, na, txa⟩ := v
        obtain ⟨ta, rfl⟩ : ∃ t : ByteArray, txa = t.data.toList := ⟨bs txa, rfl⟩
        obtain ⟨kb, nb, txb⟩ := u
        obtain ⟨tb, rfl⟩ : ∃ t : ByteArray, txb = t.data.toList := ⟨bs txb, rfl⟩
        rw [bs_of] at c2 d2
        simp only at c0 c1 c2 d0 d1 d2
        have i0 : (0 : Int) ≤ (i : Int) := by omega
        have i1 : (i : Int) < (N : Int) := by omega
        replace hv := Lib.hid hv
        replace hu := Lib.hid hu
        clear hcell hcell' hA hA'
        by_cases hsame : (⟨ka, na, ta.data.toList⟩ : Val.V) = ⟨kb, nb, tb.data.toList⟩
        · injection hsame with e1 e2 e3
          obtain rfl : ta = tb := by rw [← bs_of ta, ← bs_of tb, e3]
          subst e1 e2
          clear e3
          have hnext : va.take (i + 1) = vb.take (i + 1) := by rw [List.take_add_one, List.take_add_one, hq.out, hv.out, hu.out]
          replace hnext := Lib.hid hnext
          go_wp2_with fail
          go_quiet (fail)
          go_wp2
          go_roundw
          case rel => exact ⟨i + 1, by go_num, by omega, hnext, below_drewN hB _⟩
          case measure => simp [intOf]; omega
        have hdiff : decide (va = vb) = false := decide_eq_false (fun e => hsame (by
          have h1 := hv.out
          rw [e, hu.out] at h1
          exact (Option.some.inj h1).symm))
        replace hdiff := Lib.hid hdiff
        by_cases hk : ka = kb
        rotate_left
        · have e1 : (ka == kb) = false := by rw [beq_eq_false_iff_ne]; exact hk
          clear hsame
          have hb' := hb.out
          rw [hdiff.out] at hb'
          subst hb'
          go_wp2_with fail
          go_quiet (fail)
          go_wp2
          go_ret
          exact ⟨rfl, below_drewN hB _⟩
        subst hk
        by_cases hn : na = nb
        rotate_left
        · have e2 : (na == nb) = false := by rw [beq_eq_false_iff_ne]; exact hn
          clear hsame
          have hb' := hb.out
          rw [hdiff.out] at hb'
          subst hb'
          go_wp2_with fail
          go_quiet (fail)
          go_wp2
          go_ret
          exact ⟨rfl, below_drewN hB _⟩
        subst hn
        have e3 : (ta.toList == tb.toList) = false := by
          rw [Lib.toList_data, Lib.toList_data, beq_eq_false_iff_ne]
          exact fun e => hsame (by rw [e])
        clear hsame
        have hb' := hb.out
        rw [hdiff.out] at hb'
        subst hb'
        go_wp2_with fail
        go_quiet (fail)
        go_wp2
        go_ret
        exact ⟨rfl, below_drewN hB _⟩
      · have hlB : decide ((i : Int) < (N : Int)) = false := by simp; omega
        have hall : decide (va = vb) = true := decide_eq_true (by
          have := hq.out
          rwa [List.take_of_length_le (by rw [hla.out]; omega), List.take_of_length_le (by rw [hlb.out]; omega)] at this)
        rw [hb.out] at hall
        subst hall
        go_wp2
        go_ret
        exact ⟨rfl, hB⟩
  · have hne : ((N : Int) != (M : Int)) = true := by simp; omega
    have hdiff : decide (va = vb) = false := decide_eq_false (fun e => hNM (by rw [← hla, ← hlb, e]))
    rw [hb.out] at hdiff
    subst hdiff
    clear hla hlb
    go_enter Tryz.func34, Tryz.ntmps34
    go_wp2
    go_ret
    exact ⟨rfl, Below.refl _ _⟩

/-- what a row's comparison goes by, in whatever later world -/
structure SameOk (w : World) (p q : Option Addr) (N M c c' : Nat) (b : Bool) : Prop where
  on : ∀ W, Below w.heap.size w W → Calls Tryz.prog 34 #[.slice p N c, .slice q M c'] W fun e w' => e = .returned (.bool b) ∧ Below W.heap.size W w'
theorem keepC2 {w W W' : World} {b1 o1 b2 o2 : Nat} {x y : Value} (l1 : b1 < w.heap.size) (l2 : b2 < w.heap.size) (h : W.cell? ⟨b1, o1, none⟩ = some x ∧ W.cell? ⟨b2, o2, none⟩ = some y ∧ Below w.heap.size w W) (hb : Below W.heap.size W W') :
    W'.cell? ⟨b1, o1, none⟩ = some x ∧ W'.cell? ⟨b2, o2, none⟩ = some y ∧ Below w.heap.size w W' :=
  ⟨(hb.cell (p := ⟨b1, _, none⟩) (Nat.lt_of_lt_of_le l1 h.2.2.size)).trans h.1, (hb.cell (p := ⟨b2, _, none⟩) (Nat.lt_of_lt_of_le l2 h.2.2.size)).trans h.2.1, h.2.2.trans (hb.mono h.2.2.size)⟩
theorem keepC20 {w W : World} {b1 o1 b2 o2 : Nat} {x y : Value} (h : W.cell? ⟨b1, o1, none⟩ = some x ∧ W.cell? ⟨b2, o2, none⟩ = some y ∧ Below w.heap.size w W) : W.drew.cell? ⟨b1, o1, none⟩ = some x ∧ W.drew.cell? ⟨b2, o2, none⟩ = some y ∧ Below w.heap.size w W.drew := ⟨h.1, h.2.1, h.2.2.drew⟩
theorem SameOk.use {w W : World} {b1 o1 b2 o2 : Nat} {x y : Value} {p q : Option Addr} {N M c c' : Nat} {b : Bool} (h : SameOk w p q N M c c' b) (hS : W.cell? ⟨b1, o1, none⟩ = some x ∧ W.cell? ⟨b2, o2, none⟩ = some y ∧ Below w.heap.size w W) :
    Calls Tryz.prog 34 #[.slice p N c, .slice q M c'] W fun e w' => e = .returned (.bool b) ∧ Below W.heap.size W w' := h.on W hS.2.2
theorem sameOk {w : World} {p q : Option Addr} {N M c c' : Nat} {va vb : List Val.V} {b : Bool} (h1 : ValsAt w p N va) (h2 : ValsAt w q M vb) (hN : N ≤ 1048576) (hb : Hid (decide (va = vb) = b)) : SameOk w p q N M c c' b :=
  ⟨fun W hB => sameRow_is p N c q M c' va vb W (h1.below hB) (h2.below hB) hN b hb⟩

set_option maxHeartbeats 1000000 in
theorem sameRows_is (p : Option Addr) (N c : Nat) (q : Option Addr) (M c' : Nat) (ra rb : List (List Val.V)) (w : World) (hA : RowsAt w p N ra) (hA' : RowsAt w q M rb) (hB1 : RowsB ra) (b : Bool) (hb : Hid (decide (ra = rb) = b)) :
    Calls Tryz.prog 11 #[.slice p N c, .slice q M c'] w fun e w' => e = .returned (.bool b) ∧ Below w.heap.size w w' := by
  have hla := hA.1
  have hlb := hA'.1
  by_cases hNM : N = M
  · subst hNM
    have hne : ((N : Int) != (N : Int)) = false := by simp
    have hN : N ≤ 8388608 := by rw [← hla]; exact hB1.1
    replace hla := Lib.hid hla
    replace hlb := Lib.hid hlb
    replace hB1 := Lib.hid hB1
    go_enter Tryz.func11, Tryz.ntmps11
    go_wp2
    go_loopw [5] (fun iv wr => ∃ i : Nat, iv = .int .i64 (i : Int) ∧ i ≤ N ∧ Hid (ra.take i = rb.take i) ∧ Below w.heap.size w wr) (fun iv _ => N - (intOf iv).toNat)
    case atStart => exact ⟨0, by go_num, by omega, Lib.hid rfl, Below.refl _ _⟩
    case round =>
      obtain ⟨i, rfl, hi, hq, hB⟩ := hrel
      by_cases hlt : i < N
      · have hlB : decide ((i : Int) < (N : Int)) = true := by simp; omega
        obtain ⟨r, b1, off, p1, c1, hr, rfl, hbl, k0, hs1, hv1⟩ := (hA.below hB).at hlt
        obtain ⟨s, b2, off', p2, c2, hs, rfl, hbl', k1, hs2, hv2⟩ := (hA'.below hB).at hlt
        have hrl := (hB1.out.2 r (List.mem_of_getElem? hr)).1
        have i0 : (0 : Int) ≤ (i : Int) := by omega
        have i1 : (i : Int) < (N : Int) := by omega
        have H0 : wr.cell? ⟨b1, off + i, none⟩ = some (.slice p1 r.length c1) ∧ wr.cell? ⟨b2, off' + i, none⟩ = some (.slice p2 s.length c2) ∧ Below wr.heap.size wr wr := ⟨k0, k1, Below.refl _ _⟩
        replace hr := Lib.hid hr
        replace hs := Lib.hid hs
        clear k0 k1
        by_cases hrs : r = s
        · have hd : decide (r = s) = true := decide_eq_true hrs
          have hnext : ra.take (i + 1) = rb.take (i + 1) := by rw [List.take_add_one, List.take_add_one, hq.out, hr.out, hs.out, hrs]
          replace hnext := Lib.hid hnext
          have hok : SameOk wr p1 p2 r.length s.length c1 c2 _ := sameOk hv1 hv2 hrl (Lib.hid hd)
          clear hd hv1 hv2 hrs
          go_wp2_with fail
          go_region_held3 (fun W => W.cell? ⟨b1, off + i, none⟩ = some (.slice p1 r.length c1) ∧ W.cell? ⟨b2, off' + i, none⟩ = some (.slice p2 s.length c2) ∧ Below wr.heap.size wr W) (first | assumption | exact keepC2 hbl hbl' (by assumption) (by assumption) | exact keepC20 (by assumption)) (first
            | (go_at_call 34; refine (SameOk.use hok (by assumption)).mono ?_; rintro e w3 ⟨rfl, hb3⟩))
          rename_i hh
          go_wp2
          go_roundw
          case rel => exact ⟨i + 1, by go_num, by omega, hnext, hB.trans (hh.2.2.mono hB.size)⟩
          case measure => simp [intOf]; omega
        · have hd : decide (r = s) = false := decide_eq_false hrs
          have hdiff : decide (ra = rb) = false := decide_eq_false (fun e => hrs (by
            have h1 := hr.out
            rw [e, hs.out] at h1
            injection h1 with h1
            exact h1.symm))
          rw [hb.out] at hdiff
          subst hdiff
          have hok : SameOk wr p1 p2 r.length s.length c1 c2 _ := sameOk hv1 hv2 hrl (Lib.hid hd)
          clear hd hv1 hv2 hrs
          go_wp2_with fail
          go_region_held3 (fun W => W.cell? ⟨b1, off + i, none⟩ = some (.slice p1 r.length c1) ∧ W.cell? ⟨b2, off' + i, none⟩ = some (.slice p2 s.length c2) ∧ Below wr.heap.size wr W) (first | assumption | exact keepC2 hbl hbl' (by assumption) (by assumption) | exact keepC20 (by assumption)) (first
            | (go_at_call 34; refine (SameOk.use hok (by assumption)).mono ?_; rintro e w3 ⟨rfl, hb3⟩))
          rename_i hh
          go_wp2
          go_ret
          exact ⟨rfl, hB.trans (hh.2.2.mono hB.size)⟩
      · have hlB : decide ((i : Int) < (N : Int)) = false := by simp; omega
        have hall : decide (ra = rb) = true := decide_eq_true (by
          have := hq.out
          rwa [List.take_of_length_le (by rw [hla.out]; omega), List.take_of_length_le (by rw [hlb.out]; omega)] at this)
        rw [hb.out] at hall
        subst hall
        go_wp2
        go_ret
        exact ⟨rfl, hB⟩
  · have hne : ((N : Int) != (M : Int)) = true := by simp; omega
    have hdiff : decide (ra = rb) = false := decide_eq_false (fun e => hNM (by rw [← hla, ← hlb, e]))
    rw [hb.out] at hdiff
    subst hdiff
    clear hla hlb
    go_enter Tryz.func11, Tryz.ntmps11
    go_wp2
    go_ret
    exact ⟨rfl, Below.refl _ _⟩
end Go.Proofs.YtdapnemcdgjeeaaGreatDoor
