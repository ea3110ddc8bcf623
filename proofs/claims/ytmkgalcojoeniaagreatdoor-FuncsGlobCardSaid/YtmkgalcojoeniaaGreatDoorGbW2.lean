/- Walks: glob (package funcs). -/
import Derived.Test.YtmkgalcojoeniaaGreatDoorGbW1
set_option maxRecDepth 100000
set_option linter.unusedVariables false
set_option linter.unusedSimpArgs false
namespace Go.Proofs.YtmkgalcojoeniaaGreatDoor
open Go.RowKit
attribute [local go_sem] run_store_fn2 run_store_nofn2

theorem glob1_any (c : UInt8) (W : World) : Calls Tryz.prog 111 #[.int .u8 (c.toNat : Int)] W fun e w' => e = .returned (.bool true) ∧ Below W.heap.size W w' := by
  go_enter Tryz.func111, Tryz.ntmps111
  go_wp2
  go_ret
  exact ⟨rfl, Below.refl _ _⟩
theorem glob2_any (c : UInt8) (W : World) : Calls Tryz.prog 113 #[.int .u8 (c.toNat : Int)] W fun e w' => e = .returned (.bool false) ∧ Below W.heap.size W w' := by
  go_enter Tryz.func113, Tryz.ntmps113
  go_wp2
  go_ret
  exact ⟨rfl, Below.refl _ _⟩
theorem glob3_any (c d : UInt8) (B : Nat) (W : World) (hB : Boxed W B 5 (.int .u8 (c.toNat : Int))) : Calls Tryz.prog 114 #[.int .u8 (d.toNat : Int), .pointer (some ⟨B, 0, none⟩)] W fun e w' => e = .returned (.bool (c == d)) ∧ Below W.heap.size W w' := by
  have c0 := hB.cell
  go_enter Tryz.func114, Tryz.ntmps114
  go_wp2
  go_ret
  exact ⟨ret_bool (byte_beq c d), Below.refl _ _⟩
theorem takes_g1 (W : World) : Takes W (.func (.func 111) #[] #[]) (fun _ => true) :=
  ⟨_, _, rfl, enters_of Tryz.func111 (by kernel_rfl) rfl, [], by simp, fun W' _ c => glob1_any c W'⟩
theorem takes_g2 (W : World) : Takes W (.func (.func 113) #[] #[]) (fun _ => false) :=
  ⟨_, _, rfl, enters_of Tryz.func113 (by kernel_rfl) rfl, [], by simp, fun W' _ c => glob2_any c W'⟩
theorem takes_g3 {W : World} {B : Nat} {c : UInt8} (hB : Boxed W B 5 (.int .u8 (c.toNat : Int))) : Takes W (.func (.func 114) #[] #[.pointer (some ⟨B, 0, none⟩)]) (fun d => c == d) :=
  ⟨_, _, rfl, enters_of Tryz.func114 (by kernel_rfl) rfl, [B], fun b hb => by
    obtain rfl : b = B := by simpa using hb
    exact ⟨_, hB, fun cs z h => by cases h⟩, fun W' h d => glob3_any c d B W' ((h B (by simp)).trans hB)⟩
def strSize : Value → Nat
  | .string s => s.size
  | _ => 0
theorem below_grownN {w w' : World} (h : Below w.heap.size w w') : w.grownBy w' none := ⟨h.os, h.tape, h.output, h.size, fun k hk _ => h.block k hk⟩

theorem set_at (p : ByteArray) {f : UInt8 → Bool} {r' : List UInt8} (hs : Fit.setOf (p.data.toList.drop 1) = some (f, r')) : ∃ i, r' = p.data.toList.drop (i + 1) ∧ 0 < i ∧ i + 1 ≤ p.size := by
  obtain ⟨l, h1, _⟩ := Fit.setOf_some hs
  have hlen := congrArg List.length h1
  rw [dropLen, List.length_append, List.length_cons] at hlen
  refine ⟨l.length + 1, ?_, by omega, by omega⟩
  have : p.data.toList.drop (l.length + 1 + 1) = (p.data.toList.drop 1).drop (l.length + 1) := by rw [List.drop_drop]; congr 1; omega
  rw [this, h1, List.drop_append]
  simp
theorem set_some (p : ByteArray) (w : World) (hp : p.size ≤ 1048576) (h0 : 0 < p.size) {f : UInt8 → Bool} {i : Nat} (hi : i + 1 ≤ p.size) (hs : Fit.setOf (p.data.toList.drop 1) = some (f, p.data.toList.drop (i + 1))) :
    Calls Tryz.prog 112 #[.string p] w fun e w' => ∃ fid lb, e = .returned (.tuple #[.func (.func fid) #[] lb, .int .i64 ((i : Int) + 1), .bool true]) ∧ Takes w' (.func (.func fid) #[] lb) f ∧ Below w.heap.size w w' := by
  refine (set_any p w hp h0).mono ?_
  rintro e w' ⟨hb, ⟨f', i', fid, lb, hs', _, hi', he, hT⟩ | ⟨hs', _⟩⟩
  · rw [hs] at hs'
    injection hs' with hs'
    injection hs' with e1 e2
    have := congrArg List.length e2
    rw [dropLen, dropLen] at this
    have : i = i' := by omega
    subst this
    subst e1
    exact ⟨fid, lb, he, hT, hb⟩
  · rw [hs] at hs'; cases hs'
theorem set_none (p : ByteArray) (w : World) (hp : p.size ≤ 1048576) (h0 : 0 < p.size) (hs : Fit.setOf (p.data.toList.drop 1) = none) :
    Calls Tryz.prog 112 #[.string p] w fun e w' => ∃ fid lb n, e = .returned (.tuple #[.func (.func fid) #[] lb, .int .i64 n, .bool false]) ∧ Below w.heap.size w w' := by
  refine (set_any p w hp h0).mono ?_
  rintro e w' ⟨hb, ⟨f', i', fid, lb, hs', _⟩ | ⟨_, fid, lb, n, he⟩⟩
  · rw [hs] at hs'; cases hs'
  · exact ⟨fid, lb, n, he, hb⟩

set_option maxHeartbeats 8000000 in
theorem glob_any (p : ByteArray) (w : World) (hp : p.size ≤ 1048576) : Calls Tryz.prog 51 #[.string p] w fun e w' => ∃ v xs, e = .returned v ∧ w'.ownsRow w.heap.size 124 2 v xs.length (flat xs) ∧ PartsAt w' xs (Fit.globL p.data.toList) ∧ Below w.heap.size w w' := by
  go_enter Tryz.func51, Tryz.ntmps51
  go_wp2
  go_loopw [0, 3] (fun pv ov wr => ∃ (q : ByteArray) (xs : List (Bool × Value)) (ps : List Fit.P), pv = .string q ∧ q.size ≤ p.size ∧ wr.ownsRow w.heap.size 124 2 ov xs.length (flat xs) ∧ Hid (xs.length + q.size ≤ p.size) ∧ Hid (PartsAt wr xs ps) ∧ Hid (Fit.globL p.data.toList = ps ++ Fit.globL q.data.toList) ∧ Below w.heap.size w wr) (fun pv _ _ => strSize pv)
  case atStart => exact ⟨p, [], [], by go_num, Nat.le_refl _, World.ownsRow_nil _ _ _ _, Lib.hid (by simp), Lib.hid (PartsAt.nil w), Lib.hid rfl, Below.refl _ _⟩
  case round =>
    obtain ⟨q, xs, ps, rfl, hq, hown, hlen, hP, hG, hB⟩ := hrel
    by_cases hlt : 0 < q.size
    · have hd := dropB1 q 0 hlt
      rw [List.drop_zero] at hd
      have hG := hG.out
      rw [hd] at hG
      have hne : q.toList.isEmpty = false := by rw [Lib.toList_data, hd]; rfl
      have n0 : (0 : Int) ≤ 0 := by omega
      have n1 : (0 : Int) < (q.size : Int) := by omega
      have s1 : (1 : Int) ≤ (q.size : Int) := by omega
      have s2 : 1 ≤ q.size := hlt
      have hzB := hB.size
      have hb2 := hB.alloc hzB (.cells #[.int .u8 (q[0].toNat : Int)] 5)
      have hown2 := hown.alloc (.cells #[.int .u8 (q[0].toNat : Int)] 5)
      have hbox := Boxed.new wr 5 (.int .u8 (q[0].toNat : Int))
      have hk2 := kept_below (W := wr) (W' := wr.alloc (.cells #[.int .u8 (q[0].toNat : Int)] 5)) ((Below.refl _ wr).alloc (Nat.le_refl _) _)
      have hlx : (xs.length + 1) * 16 ≤ 140737488355328 := by have := hlen.out; omega
      have hP2 := hP.out.kept hk2
      have hlen2 : xs.length + 1 + (q.extract 1 q.size).size ≤ p.size := by have := hlen.out; simp; omega
      have htl := tail_data q 1
      rw [← htl] at hG
      replace hP2 := Lib.hid hP2
      replace hk2 := Lib.hid hk2
      replace hlen2 := Lib.hid hlen2
      replace htl := Lib.hid htl
      clear hd hP hown
      by_cases h42 : q[0] = 42
      · have q42 : ((q[0].toNat : Int) == 42) = true := by exact byte_t (n := 42) rfl h42
        rw [h42, Fit.globL_any] at hG
        have hbx := Lib.hid hbox
        have hG3 : Fit.globL p.data.toList = (ps ++ [.any]) ++ Fit.globL (q.extract 1 q.size).data.toList := by rw [hG]; simp
        replace hG3 := Lib.hid hG3
        clear hG hbox h42
        go_wp2_with (at_builtin; go_must (refine wpList_pushZ (World.size_alloc _ _) rfl _ _ 121 rfl w.heap.size 124 Tryz.underlying121 part_info rfl (by decide) _ _ _ rfl hown2 _ rfl rfl one_part_any hlx (by decide) hb2.size ?_); intro v' w1 hown' hb' hv' hg'; have hk3 := kept_grown hown2 hg'; obtain ⟨g', cap', rfl⟩ := hv'; clear hg')
        go_roundw
        case rel => exact ⟨_, xs ++ [(true, .nilFunc)], ps ++ [.any], rfl, by have := hlen2.out; omega, by rw [flat_snoc, List.length_append]; simpa using hown', Lib.hid (by have := hlen2.out; simp at this ⊢; omega), Lib.hid (by exact (hP2.out.kept hk3).snoc rfl), hG3, hb2.trans hb'⟩
        case measure => simp [strSize]; omega
      · by_cases h63 : q[0] = 63
        · have q42 : ((q[0].toNat : Int) == 42) = false := by exact byte_f (n := 42) rfl h42
          have q63 : ((q[0].toNat : Int) == 63) = true := by exact byte_t (n := 63) rfl h63
          rw [h63, Fit.globL_one] at hG
          have hbx := Lib.hid hbox
          have hG3 : Fit.globL p.data.toList = (ps ++ [.takes (fun _ => true)]) ++ Fit.globL (q.extract 1 q.size).data.toList := by rw [hG]; simp
          replace hG3 := Lib.hid hG3
          clear hG hbox h42 h63
          go_wp2_with (at_builtin; go_must (refine wpList_pushZ (World.size_alloc _ _) rfl _ _ 121 rfl w.heap.size 124 Tryz.underlying121 part_info rfl (by decide) _ _ _ rfl hown2 _ rfl rfl (one_part_fn _ _ _) hlx (by decide) hb2.size ?_); intro v' w1 hown' hb' hv' hg'; have hk3 := kept_grown hown2 hg'; obtain ⟨g', cap', rfl⟩ := hv'; clear hg')
          go_roundw
          case rel => exact ⟨_, xs ++ [(false, .func (.func 111) #[] #[])], ps ++ [.takes (fun _ => true)], rfl, by have := hlen2.out; omega, by rw [flat_snoc, List.length_append]; simpa using hown', Lib.hid (by have := hlen2.out; simp at this ⊢; omega), Lib.hid (by exact (hP2.out.kept hk3).snoc ⟨rfl, takes_g1 _⟩), hG3, hb2.trans hb'⟩
          case measure => simp [strSize]; omega
        · by_cases h91 : q[0] = 91
          · have q42 : ((q[0].toNat : Int) == 42) = false := by exact byte_f (n := 42) rfl h42
            have q63 : ((q[0].toNat : Int) == 63) = false := by exact byte_f (n := 63) rfl h63
            have q91 : ((q[0].toNat : Int) == 91) = true := by exact byte_t (n := 91) rfl h91
            rw [h91, htl.out] at hG
            replace hG := Lib.hid hG
            clear h42 h63 h91 hbox hk2
            cases hs : Fit.setOf (q.data.toList.drop 1) with
            | some x =>
              obtain ⟨f, r'⟩ := x
              obtain ⟨i, rfl, hi0, hi1⟩ := set_at q hs
              have hset := set_some q (wr.alloc (.cells #[.int .u8 (q[0].toNat : Int)] 5)) (by omega) hlt hi1 hs
              have hG3 : Fit.globL p.data.toList = (ps ++ [.takes f]) ++ Fit.globL (q.extract (i + 1) q.size).data.toList := by rw [hG.out, Fit.globL_set hs, tail_data]; simp
              have hlen3 : xs.length + 1 + (q.extract (i + 1) q.size).size ≤ p.size := by have := hlen2.out; simp at this ⊢; omega
              have z0 : (0 : Int) ≤ (i : Int) + 1 := by omega
              have z1 : (i : Int) + 1 ≤ (q.size : Int) := by omega
              have z2 : ((i : Int) + 1).toNat = i + 1 := by omega
              have z3 : i + 1 ≤ q.size := hi1
              replace hG3 := Lib.hid hG3
              replace hlen3 := Lib.hid hlen3
              replace hset := Lib.hid hset
              clear hG hs
              go_wp2_with (first
                | (go_at_call 112; refine hset.out.mono ?_; rintro e ws ⟨fid, lb, rfl, hT, hbs⟩; replace hT := Lib.hid hT; obtain ⟨W2, hW2⟩ : ∃ W2, wr.alloc (.cells #[.int .u8 (q[0].toNat : Int)] 5) = W2 := ⟨_, rfl⟩; rw [hW2] at hbs hown2 hb2 hP2; have hownS := hown2.kept (below_grownN hbs) (Classical.em _); have hPS := hP2.out.kept (kept_below hbs); have hBS := below_step hb2 hb2.size hbs; replace hPS := Lib.hid hPS; clear hW2 hown2 hb2 hP2 hbs hset)
                | (at_builtin; go_must (refine wpList_pushZ rfl rfl _ _ 121 rfl w.heap.size 124 Tryz.underlying121 part_info rfl (by decide) _ _ _ rfl hownS _ rfl rfl (one_part_fn _ _ _) hlx (by decide) hBS.size ?_); intro v' w1 hown' hb' hv' hg'; have hk3 := kept_grown hownS hg'; obtain ⟨g', cap', rfl⟩ := hv'; clear hg'))
              go_roundw
              case rel => exact ⟨_, xs ++ [(false, .func (.func fid) #[] lb)], ps ++ [.takes f], rfl, by have := hlen3.out; omega, by rw [flat_snoc, List.length_append]; simpa using hown', Lib.hid (by have := hlen3.out; simp at this ⊢; omega), Lib.hid (by exact (hPS.out.kept hk3).snoc ⟨rfl, hT.out.kept hk3⟩), hG3, hBS.trans hb'⟩
              case measure => simp [strSize]; omega
            | none =>
              have hset := set_none q (wr.alloc (.cells #[.int .u8 (q[0].toNat : Int)] 5)) (by omega) hlt hs
              have hG3 : Fit.globL p.data.toList = (ps ++ [.takes fun _ => false]) ++ Fit.globL ByteArray.empty.data.toList := by rw [hG.out, Fit.globL_none hs, show ByteArray.empty.data.toList = [] from rfl, Fit.globL_nil]; simp
              have hlen3 : xs.length + 1 + ByteArray.empty.size ≤ p.size := by have := hlen2.out; have e0 : ByteArray.empty.size = 0 := rfl; omega
              replace hG3 := Lib.hid hG3
              replace hlen3 := Lib.hid hlen3
              replace hset := Lib.hid hset
              clear hG hs
              go_wp2_with (first
                | (go_at_call 112; refine hset.out.mono ?_; rintro e ws ⟨fid, lb, n, rfl, hbs⟩; obtain ⟨W2, hW2⟩ : ∃ W2, wr.alloc (.cells #[.int .u8 (q[0].toNat : Int)] 5) = W2 := ⟨_, rfl⟩; rw [hW2] at hbs hown2 hb2 hP2; have hownS := hown2.kept (below_grownN hbs) (Classical.em _); have hPS := hP2.out.kept (kept_below hbs); have hBS := below_step hb2 hb2.size hbs; replace hPS := Lib.hid hPS; clear hW2 hown2 hb2 hP2 hbs hset)
                | (at_builtin; go_must (refine wpList_pushZ rfl rfl _ _ 121 rfl w.heap.size 124 Tryz.underlying121 part_info rfl (by decide) _ _ _ rfl hownS _ rfl rfl (one_part_fn _ _ _) hlx (by decide) hBS.size ?_); intro v' w1 hown' hb' hv' hg'; have hk3 := kept_grown hownS hg'; obtain ⟨g', cap', rfl⟩ := hv'; clear hg'))
              go_roundw
              case rel => exact ⟨_, xs ++ [(false, .func (.func 113) #[] #[])], ps ++ [.takes fun _ => false], rfl, by have := hlen3.out; omega, by rw [flat_snoc, List.length_append]; simpa using hown', Lib.hid (by have := hlen3.out; simp at this ⊢; omega), Lib.hid (by exact (hPS.out.kept hk3).snoc ⟨rfl, takes_g2 _⟩), hG3, hBS.trans hb'⟩
              case measure => simp [strSize]; omega
          · have q42 : ((q[0].toNat : Int) == 42) = false := by exact byte_f (n := 42) rfl h42
            have q63 : ((q[0].toNat : Int) == 63) = false := by exact byte_f (n := 63) rfl h63
            have q91 : ((q[0].toNat : Int) == 91) = false := by exact byte_f (n := 91) rfl h91
            rw [Fit.globL_byte _ h42 h63 h91] at hG
            have hbx := Lib.hid hbox
            have hG3 : Fit.globL p.data.toList = (ps ++ [.takes (fun d => q[0] == d)]) ++ Fit.globL (q.extract 1 q.size).data.toList := by rw [hG]; simp
            replace hG3 := Lib.hid hG3
            clear hG hbox h42 h63 h91
            go_wp2_with (at_builtin; go_must (refine wpList_pushZ (World.size_alloc _ _) rfl _ _ 121 rfl w.heap.size 124 Tryz.underlying121 part_info rfl (by decide) _ _ _ rfl hown2 _ rfl rfl (one_part_fn _ _ _) hlx (by decide) hb2.size ?_); intro v' w1 hown' hb' hv' hg'; have hk3 := kept_grown hown2 hg'; obtain ⟨g', cap', rfl⟩ := hv'; clear hg')
            go_roundw
            case rel => exact ⟨_, xs ++ [(false, .func (.func 114) #[] #[.pointer (some ⟨wr.heap.size, 0, none⟩)])], ps ++ [.takes (fun d => q[0] == d)], rfl, by have := hlen2.out; omega, by rw [flat_snoc, List.length_append]; simpa using hown', Lib.hid (by have := hlen2.out; simp at this ⊢; omega), Lib.hid (by exact (hP2.out.kept hk3).snoc ⟨rfl, takes_g3 (hk3 _ _ hbx.out (fun cs z h => by cases h))⟩), hG3, hb2.trans hb'⟩
            case measure => simp [strSize]; omega
    · have he : q = ⟨#[]⟩ := by
        have : q.data.toList = [] := List.eq_nil_of_length_eq_zero (by have : q.data.toList.length = q.size := rfl; omega)
        rw [← bs_of q, this]; rfl
      subst he
      have hP2 : PartsAt wr xs (Fit.globL p.data.toList) := by rw [hG.out]; simpa [Fit.globL_nil, show (⟨#[]⟩ : ByteArray).data.toList = [] from rfl] using hP.out
      replace hP2 := Lib.hid hP2
      clear hP hG
      go_wp2
      go_ret
      exact ⟨_, xs, rfl, hown, hP2.out, hB⟩

end Go.Proofs.YtmkgalcojoeniaaGreatDoor
