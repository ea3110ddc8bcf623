/- Walks: Nibble, Bytes and Fold of the reference of layer 2. -/
import Derived.Test.YtiiaamkmnbegdaaDoorTokW3
import Derived.Test.YtiiaamkmnbegdaaDoorText
import Derived.Deep.RegionHeld3
import Derived.Deep.AppendLies
namespace Go.Proofs.YtiiaamkmnbegdaaDoor
set_option maxRecDepth 100000
set_option linter.unusedVariables false
set_option linter.unusedSimpArgs false
open Go.RowKit

theorem nibble_any (c : UInt8) (w : World) :
    Calls Tryd.prog 87 #[.int .u8 (c.toNat : Int)] w fun e w' => e = .returned (.int .i64 (Txt.nib c)) ∧ w = w' := by
  have hc := c.toNat_lt
  go_enter Tryd.func87, Tryd.ntmps87
  go_wp2
  all_goals go_ret
  all_goals exact ⟨ret_int (by unfold Txt.nib; split <;> (first | omega | (split <;> omega))), rfl⟩

theorem drop_cons (s : ByteArray) (k : Nat) (h : k < s.size) : s.data.toList.drop k = s[k] :: s.data.toList.drop (k + 1) := by
  have h' : k < s.data.toList.length := h
  rw [List.drop_eq_getElem_cons h']; rfl
theorem drop_all (s : ByteArray) (k : Nat) (h : ¬ k < s.size) : s.data.toList.drop k = [] := List.drop_of_length_le (Nat.le_of_not_lt h)

/-- the two results of Bytes -/
theorem two_eq {q : List UInt8 × Bool} {t : List UInt8} {b : Bool} (h : q = (t, b)) : Ending.returned (.tuple #[.string (bs t), .bool b]) = .returned (.tuple #[.string (bs q.1), .bool q.2]) := by rw [h]

set_option maxHeartbeats 800000 in
theorem bytes_text (s : ByteArray) (w : World) (hs : s.size ≤ 4294967296) :
    Calls Tryd.prog 60 #[.string s, .bool false] w fun e w' => e = .returned (.tuple #[.string (bs (Txt.bytes s.data.toList false).1), .bool (Txt.bytes s.data.toList false).2]) ∧ Below w.heap.size w w' := by
  obtain ⟨q, hq⟩ : ∃ q, Txt.bytes s.data.toList false = q := ⟨_, rfl⟩
  rw [hq]
  replace hq : Hid (Txt.unq s.data.toList [] = q) := hq
  go_enter Tryd.func60, Tryd.ntmps60
  go_wp2
  go_loopw [6, 7] (fun vv i wr => ∃ (v : Value) (k : Nat) (acc : List UInt8), v = vv ∧ k ≤ s.size ∧ acc.length ≤ k ∧ i = .int .i64 (k : Int) ∧ wr.ownsRow w.heap.size 5 1 v acc.length (bytesC acc) ∧ Below w.heap.size w wr ∧ Hid (Txt.unq (s.data.toList.drop k) acc = q)) (fun _ i _ => s.size - (intOf i).toNat)
  case atStart => exact ⟨_, 0, [], rfl, by omega, by simp, by go_num, World.ownsRow_nil _ _ _ _, Below.refl _ _, hq⟩
  case round =>
    obtain ⟨v, k, acc, rfl, hk, hacc, rfl, hown, hb, hr⟩ := hrel
    by_cases hlt : k < s.size
    · have hdr := drop_cons s k hlt
      by_cases hc : s[k].toNat = 39
      · have hcB : ((s[k].toNat : Int) == 39) = true := by simp; omega
        by_cases h2 : k + 1 < s.size
        · have hdr2 := drop_cons s (k + 1) h2
          have h2B : decide ((s.size : Int) ≤ (k : Int) + 1) = false := by simp; omega
          by_cases hd : s[k + 1].toNat = 39
          · have hdB : ((s[k + 1].toNat : Int) != 39) = false := by simp; omega
            have hst := hr.out
            rw [hdr, hdr2, Txt.unq_pair _ _ hc hd] at hst
            replace hst := Lib.hid hst
            clear hc hd hdr hdr2 hr hq
            go_wp2_with (at_builtin; go_must (refine wpList_push rfl _ _ 77 rfl w.heap.size 5 Tryd.underlying77 u8_info rfl (by decide) _ _ _ rfl hown _ rfl rfl (one_u8 _) (by omega) (by decide) hb.size ?_); intro v' w1 hown' hb' hv' _)
            go_roundw
            case rel => exact ⟨_, k + 2, acc ++ [s[k + 1]], rfl, by omega, by simp; omega, by go_num, by rw [bytesC_snoc]; simpa using hown', hb.trans hb', hst⟩
            case measure => simp [intOf]; omega
          · have hdB : ((s[k + 1].toNat : Int) != 39) = true := by simp; omega
            have hst := hr.out
            rw [hdr, hdr2, Txt.unq_bad _ _ hc hd] at hst
            clear hc hd hdr hdr2 hr hq
            subst hst
            go_wp2
            go_ret2
            exact ⟨rfl, hb⟩
        · have h2B : decide ((s.size : Int) ≤ (k : Int) + 1) = true := by simp; omega
          have hst := hr.out
          rw [hdr, drop_all s (k + 1) h2, Txt.unq_last _ hc] at hst
          clear hc hdr hr hq
          subst hst
          go_wp2
          go_ret2
          exact ⟨rfl, hb⟩
      · have hcB : ((s[k].toNat : Int) == 39) = false := by simp; omega
        have hst := hr.out
        rw [hdr, Txt.unq_byte _ _ hc] at hst
        replace hst := Lib.hid hst
        clear hc hdr hr hq
        go_wp2_with (at_builtin; go_must (refine wpList_push rfl _ _ 77 rfl w.heap.size 5 Tryd.underlying77 u8_info rfl (by decide) _ _ _ rfl hown _ rfl rfl (one_u8 _) (by omega) (by decide) hb.size ?_); intro v' w1 hown' hb' hv' _)
        go_roundw
        case rel => exact ⟨_, k + 1, acc ++ [s[k]], rfl, by omega, by simp; omega, by go_num, by rw [bytesC_snoc]; simpa using hown', hb.trans hb', hst⟩
        case measure => simp [intOf]; omega
    · have hst := hr.out
      rw [drop_all s k hlt] at hst
      clear hr hq
      have hcv := run_string_own (P := Tryd.prog) 77 9 5 Tryd.underlying77 Tryd.underlying5 Tryd.underlying9 hown
      subst hst
      go_wp2
      go_ret2
      exact ⟨rfl, hb⟩

/-- one element appended, at a step of a region that draws -/
theorem step_push {P : Program} {W : World} {ops : Array Oper} {o : Oper} {a : Act} {K : Act → World → Prop} {Q : Exit → Act → World → Prop} {E : Prop} (hgd : o.guard = none) (s x : Operand) (t : TypeId)
    (ho : o.op = .call { callee := .builtin .append, args := #[s, x], argTypes := #[t, t] })
    (base : Nat) (e : TypeId) {z : Value} {size bytes : Nat} (ht : P.underlying t = some (.slice e)) (hinfo : (P.info? e).map (fun i => (i.zero, i.size, i.bytes)) = some (some z, size, bytes))
    (hzs : z.cells.size = size) (hsz : 0 < size)
    (v : Value) (n : Nat) (xs : List Value) (hs : a.eval s = v) (hown : W.ownsRow base e size v n xs)
    (cs : Array Value) (hx : a.eval x = .slice (some ⟨W.heap.size, 0, none⟩) 1 1) (hl : cs.size = size) (h1 : ∀ u ∈ cs.toList, u.oneCell' = true)
    (hbytes : (n + 1) * bytes ≤ 140737488355328) (hb0 : 0 < bytes) (hbase : base ≤ W.heap.size)
    (h : ∀ v' w1, w1.ownsRow base e size v' (n + 1) (xs ++ cs.toList) → Below base W w1 → K (a.put o.dst v') w1) :
    if Region.wanted o (yielded ops a.tmps) = true then Oper.wp P o a (W.alloc (.cells cs e)).drew K Q else E := by
  obtain ⟨i, hi, hz, hsize, hby⟩ := info_parts hinfo
  have hn : n + 1 ≤ 140737488355328 := Nat.le_trans (Nat.le_mul_of_pos_right _ hb0) hbytes
  refine step_append_lies _ hgd s x t ho base e i z size bytes ht hi hz hsize hby hzs hsz v n xs hs (hown.alloc _).drew ⟨W.heap.size, 0, none⟩ 1 1 cs.toList hx (by simpa using hl) ?_ h1 (by omega) (by simp only [maxLen]; omega) hbytes (by simp; omega) (W.heap.size + 1) (by simp) ?_
  · intro j u hu
    have hj : (⟨W.heap.size, 0, none⟩ : Addr).add j = ⟨W.heap.size, j, none⟩ := by rw [Addr.add_lit]; simp
    rw [hj, World.cell?_drew, World.cell?_alloc_at _ _ _ _ rfl]
    simpa using hu
  · intro g cap w1 hown' hg _ _
    have hg' : W.drew.grownBy w1 v.ownBlock := ⟨hg.os, hg.tape, hg.output, Nat.le_trans (by simp) hg.size, fun k hk hne => (hg.block k (by simp at hk ⊢; omega) hne).trans (Below.heap_alloc W _ k hk)⟩
    refine h _ w1 hown' ?_
    exact ((Below.refl base W).drew).grown hg' hbase fun k hk => (hown.lt k hk).1

theorem wrap16 (a b : Int) (ha : 0 ≤ a) (ha' : a ≤ 15) (hb : 0 ≤ b) (hb' : b ≤ 15) : IntKind.u8.wrap (IntKind.i64.wrap (IntKind.i64.wrap (a * 16) + b)) = ((UInt8.ofNat (a.toNat * 16 + b.toNat)).toNat : Int) := by
  rw [IntWalk.i64_in (a * 16) (by omega), IntWalk.i64_in (a * 16 + b) (by omega), UInt8.toNat_ofNat', IntWalk.u8_in _ (by omega)]; omega

theorem drop_one (s : ByteArray) (k : Nat) (h : k < s.size) (h2 : ¬ k + 1 < s.size) : s.data.toList.drop k = [s[k]] := by
  rw [drop_cons s k h, drop_all s (k + 1) h2]

set_option maxHeartbeats 1600000 in
theorem bytes_blob (s : ByteArray) (w : World) (hs : s.size ≤ 4294967296) :
    Calls Tryd.prog 60 #[.string s, .bool true] w fun e w' => e = .returned (.tuple #[.string (bs (Txt.bytes s.data.toList true).1), .bool (Txt.bytes s.data.toList true).2]) ∧ Below w.heap.size w w' := by
  obtain ⟨q, hq⟩ : ∃ q, Txt.bytes s.data.toList true = q := ⟨_, rfl⟩
  rw [hq]
  replace hq : Hid (Txt.unhex s.data.toList [] = q) := hq
  go_enter Tryd.func60, Tryd.ntmps60
  go_wp2
  go_loopw [6, 7] (fun vv i wr => ∃ (v : Value) (k : Nat) (acc : List UInt8), v = vv ∧ k ≤ s.size ∧ acc.length ≤ k ∧ i = .int .i64 (k : Int) ∧ wr.ownsRow w.heap.size 5 1 v acc.length (bytesC acc) ∧ Below w.heap.size w wr ∧ Hid (Txt.unhex (s.data.toList.drop k) acc = q)) (fun _ i _ => s.size - (intOf i).toNat)
  case atStart => exact ⟨_, 0, [], rfl, by omega, by simp, by go_num, World.ownsRow_nil _ _ _ _, Below.refl _ _, hq⟩
  case round =>
    obtain ⟨v, k, acc, rfl, hk, hacc, rfl, hown, hb, hr⟩ := hrel
    by_cases hlt : k < s.size
    · by_cases h2 : k + 1 < s.size
      · have h2B : decide ((s.size : Int) ≤ (k : Int) + 1) = false := by simp; omega
        have hdr := drop_cons s k hlt
        have hdr2 := drop_cons s (k + 1) h2
        have n1 := Txt.nib_le s[k]
        have n2 := Txt.nib_le s[k + 1]
        by_cases ha : Txt.nib s[k] < 0
        · have hst := hr.out
          rw [hdr, hdr2, Txt.unhex_bad _ _ (.inl ha)] at hst
          clear hdr hdr2 hr hq
          subst hst
          go_wp2_with (go_at_call 87; refine (nibble_any _ _).mono ?_; rintro e w' ⟨rfl, rfl⟩)
          go_ret2
          exact ⟨rfl, hb⟩
        · by_cases hbn : Txt.nib s[k + 1] < 0
          · have hst := hr.out
            rw [hdr, hdr2, Txt.unhex_bad _ _ (.inr hbn)] at hst
            clear hdr hdr2 hr hq
            subst hst
            go_wp2_with (go_at_call 87; refine (nibble_any _ _).mono ?_; rintro e w' ⟨rfl, rfl⟩)
            go_ret2
            exact ⟨rfl, hb⟩
          · have hst := hr.out
            rw [hdr, hdr2, Txt.unhex_pair _ _ (by omega) (by omega)] at hst
            clear hdr hdr2 hr hq
            replace hst := Lib.hid hst
            go_wp2_with (go_at_call 87; refine (nibble_any _ _).mono ?_; rintro e w' ⟨rfl, rfl⟩)
            have q1 : IntKind.i64.wrap ((k : Int) + 1) = (k : Int) + 1 := IntWalk.i64_in _ (by omega)
            have q2 : (0 : Int) ≤ (k : Int) + 1 := by omega
            have q3 : (k : Int) + 1 < (s.size : Int) := by omega
            have q4 : ((k : Int) + 1).toNat = k + 1 := by omega
            have q5 : (k : Int) < (s.size : Int) := by omega
            have q6 : IntKind.i64.wrap (Txt.nib s[k] * 16) = Txt.nib s[k] * 16 := IntWalk.i64_in _ (by omega)
            have q7 : IntKind.i64.wrap (Txt.nib s[k] * 16 + Txt.nib s[k + 1]) = Txt.nib s[k] * 16 + Txt.nib s[k + 1] := IntWalk.i64_in _ (by omega)
            clear q6
            go_region_held3 (fun _ => True) (trivial) (first
              | (go_at_call 87; refine (nibble_any _ _).mono ?_; rintro e w' ⟨rfl, rfl⟩)
              | (refine step_push (by rfl) _ _ _ (by rfl) w.heap.size 5 Tryd.underlying77 u8_info rfl (by omega) v acc.length (bytesC acc) (by rfl) hown _ (by rfl) (by rfl) (one_u8 _) (by omega) (by omega) hb.size ?_; intro v' w1 hown' hb'))
            all_goals clear q1 q7
            all_goals rw [wrap16 _ _ (by omega) (by omega) (by omega) (by omega)] at hown'
            all_goals go_wp2
            all_goals go_roundw
            case rel => exact ⟨_, k + 2, acc ++ [_], rfl, by omega, by simp; omega, by go_num, by rw [bytesC_snoc]; simpa using hown', hb.trans hb', hst⟩
            case measure => simp [intOf]; omega
            case rel => exact ⟨_, k + 2, acc ++ [_], rfl, by omega, by simp; omega, by go_num, by rw [bytesC_snoc]; simpa using hown', hb.trans hb', hst⟩
            case measure => simp [intOf]; omega
            case rel => exact ⟨_, k + 2, acc ++ [_], rfl, by omega, by simp; omega, by go_num, by rw [bytesC_snoc]; simpa using hown', hb.trans hb', hst⟩
            case measure => simp [intOf]; omega
      · have h2B : decide ((s.size : Int) ≤ (k : Int) + 1) = true := by simp; omega
        have hst := hr.out
        rw [drop_one s k hlt h2] at hst
        clear hr hq
        subst hst
        go_wp2
        go_ret2
        exact ⟨rfl, hb⟩
    · have hst := hr.out
      rw [drop_all s k hlt] at hst
      clear hr hq
      have hcv := run_string_own (P := Tryd.prog) 77 9 5 Tryd.underlying77 Tryd.underlying5 Tryd.underlying9 hown
      subst hst
      go_wp2
      go_ret2
      exact ⟨rfl, hb⟩

end Go.Proofs.YtiiaamkmnbegdaaDoor
