/- Walks: the reference's Fits at GLOB: its cases joined. -/
import Derived.Test.YtmkgalcojoeniaaGreatDoorFitsG
import Derived.Test.YtmkgalcojoeniaaGreatDoorFitsC
set_option maxRecDepth 100000
set_option linter.unusedVariables false
set_option linter.unusedSimpArgs false
namespace Go.Proofs.YtmkgalcojoeniaaGreatDoor
open Go.RowKit

/-- does the text from i on fit the pattern of GLOB from j on? -/
def valG (s p : ByteArray) (i j : Nat) : Bool := Fit.fit (Fit.globL (p.data.toList.drop j)) (s.data.toList.drop i)
theorem valG_end (s p : ByteArray) (i : Nat) (hi : i ≤ s.size) : valG s p i p.size = decide (i = s.size) := by
  have hl : s.data.toList.length = s.size := rfl
  unfold valG
  rw [dropB0 p p.size (Nat.le_refl _), Fit.globL_nil, Fit.fit]
  rw [Bool.eq_iff_iff, decide_eq_true_iff, List.isEmpty_iff, List.drop_eq_nil_iff]
  omega
theorem valG_any (s p : ByteArray) (i j : Nat) (hj : j < p.size) (hc : p[j].toNat = 42) : valG s p i j = (valG s p i (j + 1) || (decide (i < s.size) && valG s p (i + 1) j)) := by
  have hc' : p[j] = 42 := UInt8.toNat_inj.1 hc
  unfold valG
  rw [dropB1 p j hj, hc', Fit.globL_any, Fit.fit]
  by_cases hi : i < s.size
  · rw [dropB1 s i hi, Fit.star]; simp [hi]
    rw [Fit.fit]
  · rw [dropB0 s i (by omega), Fit.star]; simp [hi]
theorem valG_byte (s p : ByteArray) (i j : Nat) (hj : j < p.size) (h1 : p[j].toNat ≠ 42) (h2 : p[j].toNat ≠ 91) (hi : i < s.size) : valG s p i j = ((decide (s[i].toNat = p[j].toNat) || decide (p[j].toNat = 63)) && valG s p (i + 1) (j + 1)) := by
  have h1' : p[j] ≠ 42 := fun h => h1 (by rw [h]; rfl)
  have h2' : p[j] ≠ 91 := fun h => h2 (by rw [h]; rfl)
  unfold valG
  rw [dropB1 p j hj, dropB1 s i hi]
  by_cases h63 : p[j] = 63
  · rw [h63, Fit.globL_one, Fit.fit]; simp
  · have e2 : p[j].toNat ≠ 63 := fun h => h63 (UInt8.toNat_inj.1 h)
    rw [Fit.globL_byte _ h1' h63 h2', Fit.fit]
    have e1 : (p[j] == s[i]) = decide (s[i].toNat = p[j].toNat) := by
      rw [Bool.eq_iff_iff, beq_iff_eq, decide_eq_true_iff]; exact ⟨fun h => by rw [h], fun h => (UInt8.toNat_inj.1 h).symm⟩
    rw [e1]; simp [e2]
theorem valG_byte_end (s p : ByteArray) (i j : Nat) (hj : j < p.size) (h1 : p[j].toNat ≠ 42) (h2 : p[j].toNat ≠ 91) (hi : ¬ i < s.size) : valG s p i j = false := by
  have h1' : p[j] ≠ 42 := fun h => h1 (by rw [h]; rfl)
  have h2' : p[j] ≠ 91 := fun h => h2 (by rw [h]; rfl)
  unfold valG
  rw [dropB1 p j hj, dropB0 s i (by omega)]
  by_cases h63 : p[j] = 63
  · rw [h63, Fit.globL_one, Fit.fit]
  · rw [Fit.globL_byte _ h1' h63 h2', Fit.fit]
theorem valG_none (s p : ByteArray) (i j : Nat) (hj : j < p.size) (hc : p[j].toNat = 91) (hs : Fit.setOf (p.data.toList.drop (j + 1)) = none) : valG s p i j = false := by
  have hc' : p[j] = 91 := UInt8.toNat_inj.1 hc
  unfold valG
  rw [dropB1 p j hj, hc', Fit.globL_none hs]
  by_cases hi : i < s.size
  · rw [dropB1 s i hi, Fit.fit]; rfl
  · rw [dropB0 s i (by omega), Fit.fit]
theorem endR_at (p : ByteArray) (j : Nat) (hj : j < p.size) : endR (p.extract j p.size).data.toList = match Fit.setOf (p.data.toList.drop (j + 1)) with
    | none => -1
    | some x => (p.size : Int) - (j : Int) - 1 - (x.2.length : Int) := by
  have hl : p.data.toList.length = p.size := rfl
  unfold endR
  rw [tail_data, List.drop_drop, List.length_drop, hl]
  cases Fit.setOf (p.data.toList.drop (j + 1)) with
  | none => rfl
  | some x => simp only; omega
theorem set_parts (s p : ByteArray) (j : Nat) (hj : j < p.size) (hc : p[j].toNat = 91) {f : UInt8 → Bool} {r' : List UInt8} (hs : Fit.setOf (p.data.toList.drop (j + 1)) = some (f, r')) : ∃ k : Nat, 0 < k ∧ j + k < p.size ∧ endR (p.extract j p.size).data.toList = (k : Int) ∧ r' = p.data.toList.drop (j + k + 1) ∧ ∀ x, Fit.takesR ((p.extract j (j + k)).data.toList.drop 1) x = f x := by
  have hl : p.data.toList.length = p.size := rfl
  obtain ⟨l, h1, h2⟩ := Fit.setOf_some hs
  have hlen := congrArg List.length h1
  rw [List.length_drop, hl, List.length_append, List.length_cons] at hlen
  refine ⟨l.length + 1, by omega, by omega, ?_, ?_, fun x => ?_⟩
  · rw [endR_at p j hj, hs]; simp only; omega
  · have : p.data.toList.drop (j + (l.length + 1) + 1) = (p.data.toList.drop (j + 1)).drop (l.length + 1) := by rw [List.drop_drop]; congr 1; omega
    rw [this, h1, List.drop_append]
    simp
  · rw [← h2 x, Lib.extract_data]
    congr 1
    have e : j + (l.length + 1) - j = l.length + 1 := by omega
    rw [e, dropB1 p j hj, List.take_succ_cons, List.drop_succ_cons, List.drop_zero, h1]
    simp
theorem valG_set (s p : ByteArray) (i j k : Nat) (hj : j < p.size) (hc : p[j].toNat = 91) {f : UInt8 → Bool} (hs : Fit.setOf (p.data.toList.drop (j + 1)) = some (f, p.data.toList.drop (j + k + 1))) (hi : i < s.size) : valG s p i j = (f s[i] && valG s p (i + 1) (j + k + 1)) := by
  have hc' : p[j] = 91 := UInt8.toNat_inj.1 hc
  unfold valG
  rw [dropB1 p j hj, hc', Fit.globL_set hs, dropB1 s i hi, Fit.fit]
theorem valG_set_end (s p : ByteArray) (i j : Nat) (hj : j < p.size) (hc : p[j].toNat = 91) {f : UInt8 → Bool} {r' : List UInt8} (hs : Fit.setOf (p.data.toList.drop (j + 1)) = some (f, r')) (hi : ¬ i < s.size) : valG s p i j = false := by
  have hc' : p[j] = 91 := UInt8.toNat_inj.1 hc
  unfold valG
  rw [dropB1 p j hj, hc', Fit.globL_set hs, dropB0 s i (by omega), Fit.fit]
theorem num_t {c : UInt8} {n : Nat} {k : Int} (hk : k = (n : Int)) (h : c.toNat = n) : ((c.toNat : Int) == k) = true := by rw [h, hk]; simp
theorem num_f {c : UInt8} {n : Nat} {k : Int} (hk : k = (n : Int)) (h : c.toNat ≠ n) : ((c.toNat : Int) == k) = false := by rw [hk, beq_eq_false_iff_ne]; omega

theorem rfits_glob (s p : ByteArray) (gk N : Nat) (hs : s.size ≤ 1048576) (hp : p.size ≤ 1048576) (hN : N = (s.size + 1) * (p.size + 1)) :
    ∀ (k i j : Nat) (W : World), i ≤ s.size → j ≤ p.size → (s.size - i) + (p.size - j) < k → Memo W gk s.size p.size (valG s p) →
      Calls Tryz.prog 49 #[.string s, .string p, .bool true, .slice (some ⟨gk, 0, none⟩) N N, .int .i64 (i : Int), .int .i64 (j : Int)] W (RetFits gk N s.size p.size (valG s p) (valG s p i j) W) := by
  intro k
  induction k with
  | zero => intro i j W _ _ h; omega
  | succ k ih =>
    intro i j W hi hj hk hM
    obtain ⟨v, hc, _, h0⟩ := hM.2 i j hi hj
    by_cases hv0 : v = 0
    · subst hv0
      by_cases hjl : j < p.size
      · have jm : ((j : Int) == (p.size : Int)) = false := by rw [beq_eq_false_iff_ne]; omega
        by_cases h42 : p[j].toNat = 42
        · have q42 := num_t (k := 42) rfl h42
          have q37 := num_f (c := p[j]) (n := 37) (k := 37) rfl (by omega)
          have q91 := num_f (c := p[j]) (n := 91) (k := 91) rfl (by omega)
          have q95 := num_f (c := p[j]) (n := 95) (k := 95) rfl (by omega)
          have q63 := num_f (c := p[j]) (n := 63) (k := 63) rfl (by omega)
          have hval := valG_any s p i j hjl h42
          have ih1 := fun W hM => ih i (j + 1) W hi (by omega) (by omega) hM
          cases h1 : valG s p i (j + 1) with
          | true =>
            rw [h1] at hval ih1
            rw [hval]
            exact fits_anyG1 s p gk N i j _ W hs hp hN hi hj hM hc hjl jm q37 q42 q91 q95 q63 ih1 (Lib.hid hval)
          | false =>
            rw [h1] at hval ih1
            by_cases hil : i < s.size
            · have il : decide ((i : Int) < (s.size : Int)) = true := by simp; omega
              have ih2 := fun W hM => ih (i + 1) j W (by omega) hj (by omega) hM
              cases h2 : valG s p (i + 1) j with
              | true =>
                rw [h2] at hval ih2
                simp only [hil, decide_true, Bool.and_self, Bool.or_true, Bool.false_or] at hval
                rw [hval]
                exact fits_anyG2true s p gk N i j _ W hs hp hN hi hj hM hc hjl jm hil il q37 q42 q91 q95 q63 ih1 ih2 (Lib.hid hval)
              | false =>
                rw [h2] at hval ih2
                simp only [Bool.and_false, Bool.or_false] at hval
                rw [hval]
                exact fits_anyG2false s p gk N i j _ W hs hp hN hi hj hM hc hjl jm hil il q37 q42 q91 q95 q63 ih1 ih2 (Lib.hid hval)
            · have il : decide ((i : Int) < (s.size : Int)) = false := by simp; omega
              simp only [hil, decide_false, Bool.false_and, Bool.or_false] at hval
              rw [hval]
              exact fits_anyG3 s p gk N i j _ W hs hp hN hi hj hM hc hjl jm hil il q37 q42 q91 q95 q63 ih1 (Lib.hid hval)
        · by_cases h91 : p[j].toNat = 91
          · have q91 := num_t (k := 91) rfl h91
            have q37 := num_f (c := p[j]) (n := 37) (k := 37) rfl (by omega)
            have q42 := num_f (c := p[j]) (n := 42) (k := 42) rfl (by omega)
            have q95 := num_f (c := p[j]) (n := 95) (k := 95) rfl (by omega)
            have q63 := num_f (c := p[j]) (n := 63) (k := 63) rfl (by omega)
            cases hset : Fit.setOf (p.data.toList.drop (j + 1)) with
            | none =>
              have hE : endR (p.extract j p.size).data.toList = -1 := by rw [endR_at p j hjl, hset]
              have hval := valG_none s p i j hjl h91 hset
              rw [hval]
              exact fits_set_none s p gk N i j _ W hs hp hN hi hj hM hc hjl jm q37 q42 q91 q95 q63 (Lib.hid hE) (Lib.hid hval)
            | some x =>
              obtain ⟨f, r'⟩ := x
              obtain ⟨e, he0, hej, hE, rfl, hT⟩ := set_parts s p j hjl h91 hset
              by_cases hil : i < s.size
              · have il : decide ((i : Int) < (s.size : Int)) = true := by simp; omega
                have hval := valG_set s p i j e hjl h91 hset hil
                have ih1 := fun W hM => ih (i + 1) (j + e + 1) W (by omega) (by omega) (by omega) hM
                have hTi := hT s[i]
                cases hf : f s[i] with
                | false =>
                  rw [hf] at hval hTi
                  simp only [Bool.false_and] at hval
                  rw [hval]
                  exact fits_set_not s p gk N i j _ W hs hp hN hi hj hM hc hjl jm hil il q37 q42 q91 q95 q63 e hej (Lib.hid hE) he0 (Lib.hid hTi) (Lib.hid hval)
                | true =>
                  rw [hf] at hval hTi
                  simp only [Bool.true_and] at hval
                  cases h1 : valG s p (i + 1) (j + e + 1) with
                  | true =>
                    rw [h1] at hval ih1
                    rw [hval]
                    exact fits_set_true s p gk N i j _ W hs hp hN hi hj hM hc hjl jm hil il q37 q42 q91 q95 q63 e hej (Lib.hid hE) he0 (Lib.hid hTi) ih1 (Lib.hid hval)
                  | false =>
                    rw [h1] at hval ih1
                    rw [hval]
                    exact fits_set_false s p gk N i j _ W hs hp hN hi hj hM hc hjl jm hil il q37 q42 q91 q95 q63 e hej (Lib.hid hE) he0 (Lib.hid hTi) ih1 (Lib.hid hval)
              · have il : decide ((i : Int) < (s.size : Int)) = false := by simp; omega
                have hval := valG_set_end s p i j hjl h91 hset hil
                rw [hval]
                exact fits_set_end s p gk N i j _ W hs hp hN hi hj hM hc hjl jm hil il q37 q42 q91 q95 q63 e hej (Lib.hid hE) (Lib.hid hval)
          · have q42 := num_f (c := p[j]) (n := 42) (k := 42) rfl h42
            have q91 := num_f (c := p[j]) (n := 91) (k := 91) rfl h91
            by_cases h37 : p[j].toNat = 37
            · have q37 := num_t (k := 37) rfl h37
              have q95 := num_f (c := p[j]) (n := 95) (k := 95) rfl (by omega)
              have q63 := num_f (c := p[j]) (n := 63) (k := 63) rfl (by omega)
              by_cases hil : i < s.size
              · have il : decide ((i : Int) < (s.size : Int)) = true := by simp; omega
                have hval := valG_byte s p i j hjl h42 h91 hil
                have ih1 := fun W hM => ih (i + 1) (j + 1) W (by omega) (by omega) (by omega) hM
                by_cases he : s[i].toNat = p[j].toNat
                · have eq : ((s[i].toNat : Int) == (p[j].toNat : Int)) = true := by rw [he]; simp
                  simp only [he, decide_true, Bool.true_or, Bool.true_and] at hval
                  cases h1 : valG s p (i + 1) (j + 1) with
                  | true =>
                    rw [h1] at hval ih1
                    rw [hval]
                    exact fits_byteG37ytrue s p gk N i j _ W hs hp hN hi hj hM hc hjl jm hil il q37 q42 q91 q95 q63 eq ih1 (Lib.hid hval)
                  | false =>
                    rw [h1] at hval ih1
                    rw [hval]
                    exact fits_byteG37yfalse s p gk N i j _ W hs hp hN hi hj hM hc hjl jm hil il q37 q42 q91 q95 q63 eq ih1 (Lib.hid hval)
                · have eq : ((s[i].toNat : Int) == (p[j].toNat : Int)) = false := by rw [beq_eq_false_iff_ne]; omega
                  have h63' : ¬ p[j].toNat = 63 := by omega
                  simp only [he, h63', decide_false, Bool.or_false, Bool.false_and] at hval
                  rw [hval]
                  exact fits_byteG37n s p gk N i j _ W hs hp hN hi hj hM hc hjl jm hil il q37 q42 q91 q95 q63 eq (Lib.hid hval)
              · have il : decide ((i : Int) < (s.size : Int)) = false := by simp; omega
                have hval := valG_byte_end s p i j hjl h42 h91 hil
                rw [hval]
                exact fits_byteG37e s p gk N i j _ W hs hp hN hi hj hM hc hjl jm hil il q37 q42 q91 q95 q63 (Lib.hid hval)
            · skip
              by_cases h95 : p[j].toNat = 95
              · have q37 := num_f (c := p[j]) (n := 37) (k := 37) rfl (by omega)
                have q95 := num_t (k := 95) rfl h95
                have q63 := num_f (c := p[j]) (n := 63) (k := 63) rfl (by omega)
                by_cases hil : i < s.size
                · have il : decide ((i : Int) < (s.size : Int)) = true := by simp; omega
                  have hval := valG_byte s p i j hjl h42 h91 hil
                  have ih1 := fun W hM => ih (i + 1) (j + 1) W (by omega) (by omega) (by omega) hM
                  by_cases he : s[i].toNat = p[j].toNat
                  · have eq : ((s[i].toNat : Int) == (p[j].toNat : Int)) = true := by rw [he]; simp
                    simp only [he, decide_true, Bool.true_or, Bool.true_and] at hval
                    cases h1 : valG s p (i + 1) (j + 1) with
                    | true =>
                      rw [h1] at hval ih1
                      rw [hval]
                      exact fits_byteG95ytrue s p gk N i j _ W hs hp hN hi hj hM hc hjl jm hil il q37 q42 q91 q95 q63 eq ih1 (Lib.hid hval)
                    | false =>
                      rw [h1] at hval ih1
                      rw [hval]
                      exact fits_byteG95yfalse s p gk N i j _ W hs hp hN hi hj hM hc hjl jm hil il q37 q42 q91 q95 q63 eq ih1 (Lib.hid hval)
                  · have eq : ((s[i].toNat : Int) == (p[j].toNat : Int)) = false := by rw [beq_eq_false_iff_ne]; omega
                    have h63' : ¬ p[j].toNat = 63 := by omega
                    simp only [he, h63', decide_false, Bool.or_false, Bool.false_and] at hval
                    rw [hval]
                    exact fits_byteG95n s p gk N i j _ W hs hp hN hi hj hM hc hjl jm hil il q37 q42 q91 q95 q63 eq (Lib.hid hval)
                · have il : decide ((i : Int) < (s.size : Int)) = false := by simp; omega
                  have hval := valG_byte_end s p i j hjl h42 h91 hil
                  rw [hval]
                  exact fits_byteG95e s p gk N i j _ W hs hp hN hi hj hM hc hjl jm hil il q37 q42 q91 q95 q63 (Lib.hid hval)
              · skip
                by_cases h63 : p[j].toNat = 63
                · have q37 := num_f (c := p[j]) (n := 37) (k := 37) rfl (by omega)
                  have q95 := num_f (c := p[j]) (n := 95) (k := 95) rfl (by omega)
                  have q63 := num_t (k := 63) rfl h63
                  by_cases hil : i < s.size
                  · have il : decide ((i : Int) < (s.size : Int)) = true := by simp; omega
                    have hval := valG_byte s p i j hjl h42 h91 hil
                    have ih1 := fun W hM => ih (i + 1) (j + 1) W (by omega) (by omega) (by omega) hM
                    by_cases he : s[i].toNat = p[j].toNat
                    · have eq : ((s[i].toNat : Int) == (p[j].toNat : Int)) = true := by rw [he]; simp
                      simp only [he, decide_true, Bool.true_or, Bool.true_and] at hval
                      cases h1 : valG s p (i + 1) (j + 1) with
                      | true =>
                        rw [h1] at hval ih1
                        rw [hval]
                        exact fits_byteG63ytrue s p gk N i j _ W hs hp hN hi hj hM hc hjl jm hil il q37 q42 q91 q95 q63 eq ih1 (Lib.hid hval)
                      | false =>
                        rw [h1] at hval ih1
                        rw [hval]
                        exact fits_byteG63yfalse s p gk N i j _ W hs hp hN hi hj hM hc hjl jm hil il q37 q42 q91 q95 q63 eq ih1 (Lib.hid hval)
                    · have eq : ((s[i].toNat : Int) == (p[j].toNat : Int)) = false := by rw [beq_eq_false_iff_ne]; omega
                      simp only [h63, decide_true, Bool.or_true, Bool.true_and] at hval
                      cases h1 : valG s p (i + 1) (j + 1) with
                      | true =>
                        rw [h1] at hval ih1
                        rw [hval]
                        exact fits_byteG63otrue s p gk N i j _ W hs hp hN hi hj hM hc hjl jm hil il q37 q42 q91 q95 q63 eq ih1 (Lib.hid hval)
                      | false =>
                        rw [h1] at hval ih1
                        rw [hval]
                        exact fits_byteG63ofalse s p gk N i j _ W hs hp hN hi hj hM hc hjl jm hil il q37 q42 q91 q95 q63 eq ih1 (Lib.hid hval)
                  · have il : decide ((i : Int) < (s.size : Int)) = false := by simp; omega
                    have hval := valG_byte_end s p i j hjl h42 h91 hil
                    rw [hval]
                    exact fits_byteG63e s p gk N i j _ W hs hp hN hi hj hM hc hjl jm hil il q37 q42 q91 q95 q63 (Lib.hid hval)
                · skip
                  have q37 := num_f (c := p[j]) (n := 37) (k := 37) rfl (by omega)
                  have q95 := num_f (c := p[j]) (n := 95) (k := 95) rfl (by omega)
                  have q63 := num_f (c := p[j]) (n := 63) (k := 63) rfl (by omega)
                  by_cases hil : i < s.size
                  · have il : decide ((i : Int) < (s.size : Int)) = true := by simp; omega
                    have hval := valG_byte s p i j hjl h42 h91 hil
                    have ih1 := fun W hM => ih (i + 1) (j + 1) W (by omega) (by omega) (by omega) hM
                    by_cases he : s[i].toNat = p[j].toNat
                    · have eq : ((s[i].toNat : Int) == (p[j].toNat : Int)) = true := by rw [he]; simp
                      simp only [he, decide_true, Bool.true_or, Bool.true_and] at hval
                      cases h1 : valG s p (i + 1) (j + 1) with
                      | true =>
                        rw [h1] at hval ih1
                        rw [hval]
                        exact fits_byteG0ytrue s p gk N i j _ W hs hp hN hi hj hM hc hjl jm hil il q37 q42 q91 q95 q63 eq ih1 (Lib.hid hval)
                      | false =>
                        rw [h1] at hval ih1
                        rw [hval]
                        exact fits_byteG0yfalse s p gk N i j _ W hs hp hN hi hj hM hc hjl jm hil il q37 q42 q91 q95 q63 eq ih1 (Lib.hid hval)
                    · have eq : ((s[i].toNat : Int) == (p[j].toNat : Int)) = false := by rw [beq_eq_false_iff_ne]; omega
                      have h63' : ¬ p[j].toNat = 63 := by omega
                      simp only [he, h63', decide_false, Bool.or_false, Bool.false_and] at hval
                      rw [hval]
                      exact fits_byteG0n s p gk N i j _ W hs hp hN hi hj hM hc hjl jm hil il q37 q42 q91 q95 q63 eq (Lib.hid hval)
                  · have il : decide ((i : Int) < (s.size : Int)) = false := by simp; omega
                    have hval := valG_byte_end s p i j hjl h42 h91 hil
                    rw [hval]
                    exact fits_byteG0e s p gk N i j _ W hs hp hN hi hj hM hc hjl jm hil il q37 q42 q91 q95 q63 (Lib.hid hval)
      · obtain rfl : j = p.size := by omega
        have jm : ((p.size : Int) == (p.size : Int)) = true := by simp
        have hval := valG_end s p i hi
        by_cases hin : i = s.size
        · have im : ((i : Int) == (s.size : Int)) = true := by rw [hin]; simp
          rw [decide_eq_true hin] at hval
          rw [hval]
          exact fits_end_true s p true gk N i p.size _ W hs hp hN hi hj hM hc jm im (Lib.hid hval)
        · have im : ((i : Int) == (s.size : Int)) = false := by rw [beq_eq_false_iff_ne]; omega
          rw [decide_eq_false hin] at hval
          rw [hval]
          exact fits_end_false s p true gk N i p.size _ W hs hp hN hi hj hM hc jm im (Lib.hid hval)
    · rcases h0 with h0 | h0
      · exact absurd h0 hv0
      · refine fits_known s p true gk N i j _ W hs hp hN hi hj hM v hc ?_ _ (Lib.hid ?_)
        · rw [h0]; unfold codeB; split <;> omega
        · rw [h0]; cases valG s p i j <;> rfl

end Go.Proofs.YtmkgalcojoeniaaGreatDoor
