/- Walks: Has, Call (package funcs) and the head of the laws of layer 18. -/
import Derived.Test.YtmkgalcojoeniaaGreatDoorFn3
import Derived.Test.YtmkgalcojoeniaaGreatDoorVals
set_option maxRecDepth 100000
set_option linter.unusedVariables false
set_option linter.unusedSimpArgs false
namespace Go.Proofs.YtmkgalcojoeniaaGreatDoor
open Go.RowKit
attribute [local go_sem] run_store_fn run_store_nofn

theorem call1_any {b : Bool} (k n : Int) (t : ByteArray) (w : World) (h : Hid (Val.may ⟨k, n, t.data.toList⟩ = b)) :
    Calls Tryz.prog 29 #[.agg #[.int .i64 k, .int .i64 n, .string t]] w fun e w' => e = .returned (.bool (!b)) ∧ Below w.heap.size w w' := by
  go_enter Tryz.func29, Tryz.ntmps29
  go_wp2_with (go_at_call 18; refine (may_is _ _ _ _ h).mono ?_; rintro e w1 ⟨rfl, hb⟩)
  go_ret
  exact ⟨rfl, ((Below.refl _ w).alloc (Nat.le_refl _) _).trans (hb.mono (by simp))⟩
theorem call2_any {b : Bool} (k n : Int) (t : ByteArray) (w : World) (h : Hid ((k == 0) = b)) :
    Calls Tryz.prog 30 #[.agg #[.int .i64 k, .int .i64 n, .string t]] w fun e w' => e = .returned (.bool b) ∧ Below w.heap.size w w' := by
  have h' := h.out
  go_enter Tryz.func30, Tryz.ntmps30
  go_wp2
  go_ret
  exact ⟨rfl, (Below.refl _ w).alloc (Nat.le_refl _) _⟩

theorem any_take {vs : List Val.V} {p : Val.V → Bool} {k : Nat} {v : Val.V} (h : (vs.take k).any p = false) (hk : vs[k]? = some v) (hm : p v = false) : (vs.take (k + 1)).any p = false := by
  rw [List.take_add_one, hk, List.any_append, h]; simp [hm]
theorem any_yes {vs : List Val.V} {p : Val.V → Bool} {k : Nat} {v : Val.V} (hk : vs[k]? = some v) (hm : p v = true) : vs.any p = true := List.any_eq_true.2 ⟨v, List.mem_of_getElem? hk, hm⟩

set_option maxHeartbeats 400000 in
theorem vidx_any (fid : Nat) (eg : ∀ args w, (callFunc fid args).run Tryz.prog w = .ok (.enter fid args) w) (q : Val.V → Bool) (p : Option Addr) (N c : Nat) (vs : List Val.V) (w : World) (hA : ValsAt w p N vs) (hN : N ≤ 1048576)
    (hp : ∀ (k n : Int) (t : ByteArray) W b, Hid (q ⟨k, n, t.data.toList⟩ = b) → Calls Tryz.prog fid #[.agg #[.int .i64 k, .int .i64 n, .string t]] W fun e w' => e = .returned (.bool b) ∧ Below W.heap.size W w') :
    Calls Tryz.prog 56 #[.slice p N c, .func (.func fid) #[] #[]] w fun e w' => ∃ i : Int, e = .returned (.int .i64 i) ∧ (0 ≤ i ↔ vs.any q = true) ∧ Below w.heap.size w w' := by
  have hlen := hA.1
  replace hlen := Lib.hid hlen
  go_enter Tryz.func56, Tryz.ntmps56
  go_wp2
  go_loopw [8] (fun iv wr => ∃ k : Nat, iv = .int .i64 (k : Int) ∧ k ≤ N ∧ Hid ((vs.take k).any q = false) ∧ Below w.heap.size w wr) (fun iv _ => N - (Go.RowKit.intOf iv).toNat)
  case atStart => exact ⟨0, by go_num, by omega, Lib.hid (by simp), Below.refl _ _⟩
  case round =>
    obtain ⟨k, rfl, hk, hall, hB⟩ := hrel
    by_cases hlt : k < N
    · obtain ⟨v, hv⟩ : ∃ v, vs[k]? = some v := ⟨_, List.getElem?_eq_getElem (by rw [hlen.out]; exact hlt)⟩
      rcases (hA.below hB).2 with h0 | ⟨b, off, rfl, hbl, hcell⟩
      · rw [h0] at hv; simp at hv
      · obtain ⟨c0, c1, c2⟩ := hcell k v hv
        obtain ⟨kd, n, tx⟩ := v
        obtain ⟨t, rfl⟩ : ∃ t : ByteArray, tx = t.data.toList := ⟨bs tx, rfl⟩
        rw [bs_of] at c2
        simp only at c0 c1 c2
        have b1 : w.heap.size ≤ wr.heap.size := hB.size
        have hlB : decide ((k : Int) < (N : Int)) = true := by simp; omega
        clear hcell
        cases hm : q ⟨kd, n, t.data.toList⟩ with
        | true =>
          have hno := any_yes (p := q) hv hm
          have hc := hp kd n t wr _ (Lib.hid hm)
          replace hno := Lib.hid hno
          clear hv hm hp
          go_wp2_with (go_at_fn fid; refine hc.mono ?_; rintro e w1 ⟨rfl, hb1⟩)
          go_ret
          exact ⟨_, rfl, ⟨fun _ => hno.out, fun _ => by omega⟩, hB.trans (hb1.mono b1)⟩
        | false =>
          have hnext := any_take (p := q) hall.out hv hm
          have hc := hp kd n t wr _ (Lib.hid hm)
          replace hnext := Lib.hid hnext
          clear hv hm hp
          go_wp2_with (go_at_fn fid; refine hc.mono ?_; rintro e w1 ⟨rfl, hb1⟩)
          go_roundw
          case rel => exact ⟨k + 1, by go_num, by omega, hnext, hB.trans (hb1.mono b1)⟩
          case measure => simp [Go.RowKit.intOf]; omega
    · have hall2 : vs.any q = false := by
        have := hall.out
        rwa [List.take_of_length_le (by rw [hlen.out]; omega)] at this
      replace hall2 := Lib.hid hall2
      have hlB : decide ((k : Int) < (N : Int)) = false := by simp; omega
      clear hp
      go_wp2
      go_ret
      exact ⟨_, rfl, ⟨fun h => by omega, fun h => by rw [hall2.out] at h; cases h⟩, hB⟩

theorem vcontains_any (fid : Nat) (eg : ∀ args w, (callFunc fid args).run Tryz.prog w = .ok (.enter fid args) w) (q : Val.V → Bool) (p : Option Addr) (N c : Nat) (vs : List Val.V) (w : World) (hA : ValsAt w p N vs) (hN : N ≤ 1048576)
    (hp : ∀ (k n : Int) (t : ByteArray) W b, Hid (q ⟨k, n, t.data.toList⟩ = b) → Calls Tryz.prog fid #[.agg #[.int .i64 k, .int .i64 n, .string t]] W fun e w' => e = .returned (.bool b) ∧ Below W.heap.size W w') (r : Bool) (hr : Hid (vs.any q = r)) :
    Calls Tryz.prog 28 #[.slice p N c, .func (.func fid) #[] #[]] w fun e w' => e = .returned (.bool r) ∧ Below w.heap.size w w' := by
  have hc := vidx_any fid eg q p N c vs w hA hN hp
  clear hp hA
  go_enter Tryz.func28, Tryz.ntmps28
  go_wp2_with (go_at_call 56; refine hc.mono ?_; rintro e w1 ⟨i, rfl, hi, hb⟩; replace hi := Lib.hid hi)
  go_ret
  refine ⟨ret_bool ?_, hb⟩
  cases hq : vs.any q with
  | true =>
    have := hi.out.2 hq
    rw [← hr.out, hq]
    simp; omega
  | false =>
    have := hi.out
    rw [hq] at this
    rw [← hr.out, hq]
    simp at this ⊢; omega

theorem notmay_all (w : World) (p : Option Addr) (N c : Nat) (vs : List Val.V) (hA : ValsAt w p N vs) (hN : N ≤ 1048576) (r : Bool) (hr : Hid (vs.any (fun v => !Val.may v) = r)) :
    Calls Tryz.prog 28 #[.slice p N c, .func (.func 29) #[] #[]] w fun e w' => e = .returned (.bool r) ∧ Below w.heap.size w w' :=
  vcontains_any _ (enters_of Tryz.func29 (by kernel_rfl) rfl) (fun v => !Val.may v) p N c vs w hA hN (fun k n t W b hb => by
    have := call1_any (b := !b) k n t W (Lib.hid (by have := hb.out; simp only [Bool.not_eq_eq_eq_not] at this; exact this))
    rwa [Bool.not_not] at this) r hr
theorem null_all (w : World) (p : Option Addr) (N c : Nat) (vs : List Val.V) (hA : ValsAt w p N vs) (hN : N ≤ 1048576) (r : Bool) (hr : Hid (vs.any (fun v => v.kind == 0) = r)) :
    Calls Tryz.prog 28 #[.slice p N c, .func (.func 30) #[] #[]] w fun e w' => e = .returned (.bool r) ∧ Below w.heap.size w w' :=
  vcontains_any _ (enters_of Tryz.func30 (by kernel_rfl) rfl) (fun v => v.kind == 0) p N c vs w hA hN (fun k n t W b hb => call2_any k n t W hb) r hr

set_option maxHeartbeats 1000000 in
theorem has_any (nm : ByteArray) (n : Int) (w : World) (hnm : nm.size ≤ 1048576) (r : Bool) (hr : Hid (decide (0 ≤ findAt nm.data.toList n) = r)) :
    Calls Tryz.prog 13 #[.string nm, .int .i64 n] w fun e w' => e = .returned (.bool r) ∧ Below w.heap.size w w' := by
  rcases firstFrom_range (fits nm.data.toList n) 20 0 with h | ⟨k, h, _, hk, _⟩
  · have hF : findAt nm.data.toList n = -1 := h
    obtain rfl : r = false := by rw [← hr.out, hF]; rfl
    replace hF := Lib.hid hF
    clear h
    go_enter Tryz.func13, Tryz.ntmps13
    go_wp2_with (go_at_call 27; refine (find_none _ _ _ hnm hF).mono ?_; rintro e w1 ⟨rfl, hb⟩)
    go_ret
    exact ⟨rfl, below_step hb hb.size (below_new _ _)⟩
  · have hF : findAt nm.data.toList n = (k : Int) := h
    obtain rfl : r = true := by rw [← hr.out, hF]; simp
    replace hF := Lib.hid hF
    clear h
    go_enter Tryz.func13, Tryz.ntmps13
    go_wp2_with (go_at_call 27; refine (find_some k (by omega) _ _ _ hnm hF).mono ?_; rintro e w1 ⟨v, rfl, hv, hb⟩; have hone : ∀ (a : Addr) (m : Mode) (W : World), (store a v m).run Tryz.prog W = stored Tryz.prog W a v m := fun a m W => run_store _ W a _ m (at_one hv))
    go_ret
    exact ⟨rfl, below_step hb hb.size (below_new _ _)⟩

set_option maxHeartbeats 1000000 in
theorem call_none (nm : ByteArray) (c : Int) (p : Option Addr) (N cap : Nat) (w : World) (hnm : nm.size ≤ 1048576) (hF : Hid (findAt nm.data.toList (N : Int) = -1)) :
    Calls Tryz.prog 9 #[.string nm, .int .i64 c, .slice p N cap] w (VRet2 0 0 ⟨#[]⟩ 4 w) := by
  have hS := start1 w (.int .i64 0) (.int .i64 0) (.string ⟨#[]⟩) 25
  have hb0 := below_new w (.cells #[.int .i64 0, .int .i64 0, .string ⟨#[]⟩] 25)
  have hfind := find_none nm (N : Int) (w.alloc (.cells #[.int .i64 0, .int .i64 0, .string ⟨#[]⟩] 25)) hnm hF
  go_enter Tryz.func9, Tryz.ntmps9
  go_wp2_with (go_at_call 27; refine hfind.mono ?_; rintro e w1 ⟨rfl, hb1⟩; have hS1 := keep1 (keep1 hS hb1) (below_new w1 (.cells #[.string ⟨#[]⟩, .int .i64 0, .int .i64 0, .bool false, .nilFunc] 56)); obtain ⟨ca0, ca1, ca2, ca3, ca4, ca5, hz, hB⟩ := id hS1)
  exact bodyPost_ret (v := .tuple #[.agg #[.int .i64 0, .int .i64 0, .string ⟨#[]⟩], .int .i64 4]) (by simp only [results, Tryz.results9]; go_simp) rfl ⟨rfl, below_setg hB (by omega)⟩

set_option maxHeartbeats 1000000 in
theorem call_bad (k : Nat) (hk : k < 20) (nm : ByteArray) (c : Int) (p : Option Addr) (N cap : Nat) (vs : List Val.V) (w : World) (hnm : nm.size ≤ 1048576) (hA : ValsAt w p N vs) (hN : N ≤ 1048576) (hF : Hid (findAt nm.data.toList (N : Int) = (k : Int))) (hm : Hid (vs.any (fun v => !Val.may v) = true)) :
    Calls Tryz.prog 9 #[.string nm, .int .i64 c, .slice p N cap] w (VRet2 0 0 ⟨#[]⟩ 2 w) := by
  have hS := start1 w (.int .i64 0) (.int .i64 0) (.string ⟨#[]⟩) 25
  have hb0 := below_new w (.cells #[.int .i64 0, .int .i64 0, .string ⟨#[]⟩] 25)
  have hfind := find_some k hk nm (N : Int) (w.alloc (.cells #[.int .i64 0, .int .i64 0, .string ⟨#[]⟩] 25)) hnm hF
  generalize fname k = s0 at hfind
  generalize fleasts.getD k 0 = s1 at hfind
  generalize fmosts.getD k 0 = s2 at hfind
  generalize fnullss.getD k false = s3 at hfind
  go_enter Tryz.func9, Tryz.ntmps9
  go_wp2_with (first
    | (go_at_call 27; refine hfind.mono ?_; rintro e w1 ⟨v, rfl, hv, hb1⟩; have hone : ∀ (a : Addr) (m : Mode) (W : World), (store a v m).run Tryz.prog W = stored Tryz.prog W a v m := fun a m W => run_store _ W a _ m (at_one hv); have hS1 := keep1 (keep1 hS hb1) (below_new w1 (.cells #[.string s0, .int .i64 s1, .int .i64 s2, .bool s3, v] 56)); have hA1 := ((hA.below hb0).below hb1).below (below_new w1 (.cells #[.string s0, .int .i64 s1, .int .i64 s2, .bool s3, v] 56)))
    | (go_at_call 28; refine (notmay_all _ p N cap vs hA1 hN _ hm).mono ?_; rintro e w2 ⟨rfl, hb2⟩; have hS2 := keep1 hS1 hb2; obtain ⟨ca0, ca1, ca2, ca3, ca4, ca5, hz, hB⟩ := id hS2))
  exact bodyPost_ret (v := .tuple #[.agg #[.int .i64 0, .int .i64 0, .string ⟨#[]⟩], .int .i64 2]) (by simp only [results, Tryz.results9]; go_simp) rfl ⟨rfl, below_setg hB (by omega)⟩

set_option maxHeartbeats 1000000 in
theorem call_null (k : Nat) (hk : k < 20) (nm : ByteArray) (c : Int) (p : Option Addr) (N cap : Nat) (vs : List Val.V) (w : World) (hnm : nm.size ≤ 1048576) (hA : ValsAt w p N vs) (hN : N ≤ 1048576) (hF : Hid (findAt nm.data.toList (N : Int) = (k : Int))) (hm : Hid (vs.any (fun v => !Val.may v) = false)) (hn : fnullss.getD k false = false) (hz0 : Hid (vs.any (fun v => v.kind == 0) = true)) :
    Calls Tryz.prog 9 #[.string nm, .int .i64 c, .slice p N cap] w (VRet2 0 0 ⟨#[]⟩ 0 w) := by
  have hS := start1 w (.int .i64 0) (.int .i64 0) (.string ⟨#[]⟩) 25
  have hb0 := below_new w (.cells #[.int .i64 0, .int .i64 0, .string ⟨#[]⟩] 25)
  have hfind := find_some k hk nm (N : Int) (w.alloc (.cells #[.int .i64 0, .int .i64 0, .string ⟨#[]⟩] 25)) hnm hF
  rw [hn] at hfind
  clear hn
  generalize fname k = s0 at hfind
  generalize fleasts.getD k 0 = s1 at hfind
  generalize fmosts.getD k 0 = s2 at hfind
  go_enter Tryz.func9, Tryz.ntmps9
  go_wp2_with fail
  refine hfind.mono ?_
  rintro e w1 ⟨v, rfl, hv, hb1⟩
  have hone : ∀ (a : Addr) (m : Mode) (W : World), (store a v m).run Tryz.prog W = stored Tryz.prog W a v m := fun a m W => run_store _ W a _ m (at_one hv)
  have hS1 := keep1 (keep1 hS hb1) (below_new w1 (.cells #[.string s0, .int .i64 s1, .int .i64 s2, .bool false, v] 56))
  have hA1 := ((hA.below hb0).below hb1).below (below_new w1 (.cells #[.string s0, .int .i64 s1, .int .i64 s2, .bool false, v] 56))
  have k3 := cell_of_row _ _ 3 _ _ _ (heap_new w1 (.cells #[.string s0, .int .i64 s1, .int .i64 s2, .bool false, v] 56))
  go_wp2_with fail
  refine (notmay_all _ p N cap vs hA1 hN _ hm).mono ?_
  rintro e w2 ⟨rfl, hb2⟩
  have hS2 := keep1 hS1 hb2
  have hA2 := hA1.below hb2
  have d3 := (hb2.cell (p := ⟨w1.heap.size, 3, none⟩) (by simp)).trans k3
  go_wp2_with fail
  refine (null_all _ p N cap vs hA2 hN _ hz0).mono ?_
  rintro e w3 ⟨rfl, hb3⟩
  have hS3 := keep1 hS2 hb3
  obtain ⟨ca0, ca1, ca2, ca3, ca4, ca5, hz, hB⟩ := id hS3
  go_wp2
  exact bodyPost_ret (v := .tuple #[.agg #[.int .i64 0, .int .i64 0, .string ⟨#[]⟩], .int .i64 0]) (by simp only [results, Tryz.results9]; go_simp) rfl ⟨rfl, below_setg hB (by omega)⟩

theorem at_shape {lo : Nat} {W : World} {v : Value} {d : DoF} (h : d.At lo W v) : ∃ fid lb, v = .func (.func fid) #[] lb := by
  cases d with
  | plain f => exact ⟨_, _, h⟩
  | one f => obtain ⟨B, e, _, _⟩ := h; exact ⟨_, _, e⟩
  | trim l r => obtain ⟨B, C, e, _, _⟩ := h; exact ⟨_, _, e⟩
  | ext n => obtain ⟨B, e, _, _⟩ := h; exact ⟨_, _, e⟩

set_option maxHeartbeats 1000000 in
theorem call_do0 (k : Nat) (hk : k < 20) (nm : ByteArray) (c : Int) (p : Option Addr) (N cap : Nat) (vs : List Val.V) (w : World) (hnm : nm.size ≤ 1048576) (hA : ValsAt w p N vs) (hN : N ≤ 1048576) (hF : Hid (findAt nm.data.toList (N : Int) = (k : Int))) (hm : Hid (vs.any (fun v => !Val.may v) = false)) (hn : fnullss.getD k false = false) (hz0 : Hid (vs.any (fun v => v.kind == 0) = false))
    (k2 n2 : Int) (t2 : ByteArray) (hdo : ∀ fid lb W, (fdos.getD k (.plain 0)).At w.heap.size W (.func (.func fid) #[] lb) → Below w.heap.size w W → (∀ args w, (callFunc fid args).run Tryz.prog w = .ok (.enter fid args) w) ∧ Calls Tryz.prog fid (#[.int .i64 c, .slice p N cap] ++ lb) W (VRet k2 n2 t2 W)) :
    Calls Tryz.prog 9 #[.string nm, .int .i64 c, .slice p N cap] w (VRet2 k2 n2 t2 0 w) := by
  have hS := start1 w (.int .i64 0) (.int .i64 0) (.string ⟨#[]⟩) 25
  have hb0 := below_new w (.cells #[.int .i64 0, .int .i64 0, .string ⟨#[]⟩] 25)
  have hfind := find_some k hk nm (N : Int) (w.alloc (.cells #[.int .i64 0, .int .i64 0, .string ⟨#[]⟩] 25)) hnm hF
  rw [hn] at hfind
  clear hn
  generalize fname k = s0 at hfind
  generalize fleasts.getD k 0 = s1 at hfind
  generalize fmosts.getD k 0 = s2 at hfind
  go_enter Tryz.func9, Tryz.ntmps9
  go_wp2_with fail
  refine hfind.mono ?_
  rintro e w1 ⟨v, rfl, hv, hb1⟩
  obtain ⟨fid, lb, rfl⟩ := at_shape hv
  have hS1 := keep1 (keep1 hS hb1) (below_new w1 (.cells #[.string s0, .int .i64 s1, .int .i64 s2, .bool false, .func (.func fid) #[] lb] 56))
  have hA1 := ((hA.below hb0).below hb1).below (below_new w1 (.cells #[.string s0, .int .i64 s1, .int .i64 s2, .bool false, .func (.func fid) #[] lb] 56))
  have k3 := cell_of_row _ _ 3 _ _ _ (heap_new w1 (.cells #[.string s0, .int .i64 s1, .int .i64 s2, .bool false, .func (.func fid) #[] lb] 56))
  have k4 := cell_of_row _ _ 4 _ _ _ (heap_new w1 (.cells #[.string s0, .int .i64 s1, .int .i64 s2, .bool false, .func (.func fid) #[] lb] 56))
  have hv1 := hv.on (below_new w1 (.cells #[.string s0, .int .i64 s1, .int .i64 s2, .bool false, .func (.func fid) #[] lb] 56))
  go_wp2_with fail
  refine (notmay_all _ p N cap vs hA1 hN _ hm).mono ?_
  rintro e w2 ⟨rfl, hb2⟩
  have hS2 := keep1 hS1 hb2
  have hA2 := hA1.below hb2
  have d3 := (hb2.cell (p := ⟨w1.heap.size, 3, none⟩) (by simp)).trans k3
  go_wp2_with fail
  refine (null_all _ p N cap vs hA2 hN _ hz0).mono ?_
  rintro e w3 ⟨rfl, hb3⟩
  have hS3 := keep1 hS2 hb3
  have hz3 : w1.heap.size < w2.heap.size := by have := hb2.size; simp at this; omega
  have d4 := (hb3.cell (p := ⟨w1.heap.size, 4, none⟩) hz3).trans ((hb2.cell (p := ⟨w1.heap.size, 4, none⟩) (by simp)).trans k4)
  obtain ⟨_, _, _, _, _, _, hz4, hB4⟩ := id hS3
  obtain ⟨eg, hdo⟩ := hdo fid lb w3 (((hv1.on hb2).on hb3).low (by simp)) hB4
  go_wp2_with fail
  refine hdo.mono ?_
  rintro e w4 ⟨rfl, hb4⟩
  have hS4 := keep1 hS3 hb4
  obtain ⟨ca0, ca1, ca2, ca3, ca4, ca5, hz, hB⟩ := id hS4
  go_wp2
  exact bodyPost_ret (v := .tuple #[.agg #[.int .i64 k2, .int .i64 n2, .string t2], .int .i64 0]) (by simp only [results, Tryz.results9]; go_simp) rfl ⟨rfl, below_setg hB (by omega)⟩

set_option maxHeartbeats 1000000 in
theorem call_do1 (k : Nat) (hk : k < 20) (nm : ByteArray) (c : Int) (p : Option Addr) (N cap : Nat) (vs : List Val.V) (w : World) (hnm : nm.size ≤ 1048576) (hA : ValsAt w p N vs) (hN : N ≤ 1048576) (hF : Hid (findAt nm.data.toList (N : Int) = (k : Int))) (hm : Hid (vs.any (fun v => !Val.may v) = false)) (hn : fnullss.getD k false = true)
    (k2 n2 : Int) (t2 : ByteArray) (hdo : ∀ fid lb W, (fdos.getD k (.plain 0)).At w.heap.size W (.func (.func fid) #[] lb) → Below w.heap.size w W → (∀ args w, (callFunc fid args).run Tryz.prog w = .ok (.enter fid args) w) ∧ Calls Tryz.prog fid (#[.int .i64 c, .slice p N cap] ++ lb) W (VRet k2 n2 t2 W)) :
    Calls Tryz.prog 9 #[.string nm, .int .i64 c, .slice p N cap] w (VRet2 k2 n2 t2 0 w) := by
  have hS := start1 w (.int .i64 0) (.int .i64 0) (.string ⟨#[]⟩) 25
  have hb0 := below_new w (.cells #[.int .i64 0, .int .i64 0, .string ⟨#[]⟩] 25)
  have hfind := find_some k hk nm (N : Int) (w.alloc (.cells #[.int .i64 0, .int .i64 0, .string ⟨#[]⟩] 25)) hnm hF
  rw [hn] at hfind
  clear hn
  generalize fname k = s0 at hfind
  generalize fleasts.getD k 0 = s1 at hfind
  generalize fmosts.getD k 0 = s2 at hfind
  go_enter Tryz.func9, Tryz.ntmps9
  go_wp2_with fail
  refine hfind.mono ?_
  rintro e w1 ⟨v, rfl, hv, hb1⟩
  obtain ⟨fid, lb, rfl⟩ := at_shape hv
  have hS1 := keep1 (keep1 hS hb1) (below_new w1 (.cells #[.string s0, .int .i64 s1, .int .i64 s2, .bool true, .func (.func fid) #[] lb] 56))
  have hA1 := ((hA.below hb0).below hb1).below (below_new w1 (.cells #[.string s0, .int .i64 s1, .int .i64 s2, .bool true, .func (.func fid) #[] lb] 56))
  have k3 := cell_of_row _ _ 3 _ _ _ (heap_new w1 (.cells #[.string s0, .int .i64 s1, .int .i64 s2, .bool true, .func (.func fid) #[] lb] 56))
  have k4 := cell_of_row _ _ 4 _ _ _ (heap_new w1 (.cells #[.string s0, .int .i64 s1, .int .i64 s2, .bool true, .func (.func fid) #[] lb] 56))
  have hv1 := hv.on (below_new w1 (.cells #[.string s0, .int .i64 s1, .int .i64 s2, .bool true, .func (.func fid) #[] lb] 56))
  go_wp2_with fail
  refine (notmay_all _ p N cap vs hA1 hN _ hm).mono ?_
  rintro e w2 ⟨rfl, hb2⟩
  have hS2 := keep1 hS1 hb2
  have hA2 := hA1.below hb2
  have d3 := (hb2.cell (p := ⟨w1.heap.size, 3, none⟩) (by simp)).trans k3
  have d4 := (hb2.cell (p := ⟨w1.heap.size, 4, none⟩) (by simp)).trans k4
  obtain ⟨_, _, _, _, _, _, hz4, hB4⟩ := id hS2
  obtain ⟨eg, hdo⟩ := hdo fid lb w2 ((hv1.on hb2).low (by simp)) hB4
  go_wp2_with fail
  refine hdo.mono ?_
  rintro e w4 ⟨rfl, hb4⟩
  have hS4 := keep1 hS2 hb4
  obtain ⟨ca0, ca1, ca2, ca3, ca4, ca5, hz, hB⟩ := id hS4
  go_wp2
  exact bodyPost_ret (v := .tuple #[.agg #[.int .i64 k2, .int .i64 n2, .string t2], .int .i64 0]) (by simp only [results, Tryz.results9]; go_simp) rfl ⟨rfl, below_setg hB (by omega)⟩

/-- a block of three cells, kept over all that lies above -/
theorem keepH {w0 W W' : World} {B g : Nat} {x y z : Value} (h : W.cell? ⟨g, 0, none⟩ = some x ∧ W.cell? ⟨g, 1, none⟩ = some y ∧ W.cell? ⟨g, 2, none⟩ = some z ∧ g < W.heap.size ∧ B ≤ W.heap.size ∧ Below B w0 W) (hb : Below W.heap.size W W') :
    W'.cell? ⟨g, 0, none⟩ = some x ∧ W'.cell? ⟨g, 1, none⟩ = some y ∧ W'.cell? ⟨g, 2, none⟩ = some z ∧ g < W'.heap.size ∧ B ≤ W'.heap.size ∧ Below B w0 W' := by
  obtain ⟨h0, h1, h2, h3, h4, h5⟩ := h
  exact ⟨(hb.cell (p := ⟨g, 0, none⟩) h3).trans h0, (hb.cell (p := ⟨g, 1, none⟩) h3).trans h1, (hb.cell (p := ⟨g, 2, none⟩) h3).trans h2, Nat.lt_of_lt_of_le h3 hb.size, Nat.le_trans h4 hb.size, below_step h5 h4 hb⟩
theorem keepHd {w0 W : World} {B g : Nat} {x y z : Value} (h : W.cell? ⟨g, 0, none⟩ = some x ∧ W.cell? ⟨g, 1, none⟩ = some y ∧ W.cell? ⟨g, 2, none⟩ = some z ∧ g < W.heap.size ∧ B ≤ W.heap.size ∧ Below B w0 W) :
    W.drew.cell? ⟨g, 0, none⟩ = some x ∧ W.drew.cell? ⟨g, 1, none⟩ = some y ∧ W.drew.cell? ⟨g, 2, none⟩ = some z ∧ g < W.drew.heap.size ∧ B ≤ W.drew.heap.size ∧ Below B w0 W.drew := by
  obtain ⟨h0, h1, h2, h3, h4, h5⟩ := h
  exact ⟨h0, h1, h2, h3, h4, h5.drew⟩
theorem startH {w0 w : World} {B : Nat} (k n : Int) (t : ByteArray) (hb : Below B w0 w) (hB : B ≤ w.heap.size) : (w.alloc (.cells #[.int .i64 k, .int .i64 n, .string t] 25)).cell? ⟨w.heap.size, 0, none⟩ = some (.int .i64 k) ∧ (w.alloc (.cells #[.int .i64 k, .int .i64 n, .string t] 25)).cell? ⟨w.heap.size, 1, none⟩ = some (.int .i64 n) ∧ (w.alloc (.cells #[.int .i64 k, .int .i64 n, .string t] 25)).cell? ⟨w.heap.size, 2, none⟩ = some (.string t) ∧ w.heap.size < (w.alloc (.cells #[.int .i64 k, .int .i64 n, .string t] 25)).heap.size ∧ B ≤ (w.alloc (.cells #[.int .i64 k, .int .i64 n, .string t] 25)).heap.size ∧ Below B w0 (w.alloc (.cells #[.int .i64 k, .int .i64 n, .string t] 25)) := by
  obtain ⟨x0, x1, x2, _, _, _⟩ := cells3 (Below.refl (w.alloc (.cells #[.int .i64 k, .int .i64 n, .string t] 25)).heap.size (w.alloc (.cells #[.int .i64 k, .int .i64 n, .string t] 25))) (by simp) (heap_new w (.cells #[.int .i64 k, .int .i64 n, .string t] 25))
  exact ⟨x0, x1, x2, by simp, by simp; omega, hb.alloc hB _⟩

set_option maxHeartbeats 1000000 in

theorem at_absurd {lo : Nat} {W : World} {fid : Nat} {lb : Array Value} {f : FuncId} (h : (DoF.one f).At lo W (.func (.func fid) #[] lb)) : fid = 126 ∧ ∃ B, lb = #[.pointer (some ⟨B, 0, none⟩)] ∧ Boxed W B 76 (.func (.func f) #[] #[]) := by
  obtain ⟨B, e, _, h⟩ := h
  simp only [Value.func.injEq, Fn.func.injEq, true_and] at e
  exact ⟨e.1, B, e.2, h⟩

set_option maxHeartbeats 1000000 in
theorem call_abs3 (g : Nat) (w : World) (hL : Lits w) (hg : w.heap[g]? = some (.cells #[.int .i64 1, .int .i64 (-3), .string ⟨#[]⟩] 25 (0, 0))) :
    Calls Tryz.prog 9 #[.string ⟨#[65, 98, 115]⟩, .int .i64 0, .slice (some ⟨g, 0, none⟩) 1 1] w (VRet2 1 3 ⟨#[]⟩ 0 w) := by
  obtain ⟨c0, c1, c2, _, _, _⟩ := cells3o hg
  have hl : g < w.heap.size := (Array.getElem?_eq_some_iff.1 hg).1
  have hA : ValsAt w (some ⟨g, 0, none⟩) 1 [⟨1, -3, []⟩] := ⟨rfl, .inr ⟨g, 0, rfl, hl, fun k v hk => by
    cases k with
    | zero => simp at hk; subst hk; exact ⟨c0, c1, c2⟩
    | succ k => simp at hk⟩⟩
  refine call_do0 0 (by omega) ⟨#[65, 98, 115]⟩ 0 (some ⟨g, 0, none⟩) 1 1 [⟨1, -3, []⟩] w (by decide) hA (by omega) (Lib.hid (by decide)) (Lib.hid (by decide)) rfl (Lib.hid (by decide)) 1 3 ⟨#[]⟩ ?_
  intro fid lb W hat hb
  obtain ⟨rfl, B, rfl, hB⟩ := at_absurd hat
  refine ⟨enters_of Tryz.func126 (by kernel_rfl) rfl, ?_⟩
  refine one1_any _ (enters_of Tryz.func75 (by kernel_rfl) rfl) 0 B g 0 1 1 1 (-3) ⟨#[]⟩ 1 3 ⟨#[]⟩ W hB ((hb.cell (p := ⟨g, 0, none⟩) hl).trans c0) ((hb.cell (p := ⟨g, 1, none⟩) hl).trans c1) ((hb.cell (p := ⟨g, 2, none⟩) hl).trans c2) (Nat.lt_of_lt_of_le hl hb.size) (by omega) ?_
  intro W' hb'
  exact abs_neg 1 (-3) ⟨#[]⟩ 1 (-3) 1 3 ⟨#[]⟩ 0 W' ((hL.below hb).below hb') (by decide) (Lib.hid (by decide)) (by omega) (Lib.hid (by decide))

theorem call_nope (w : World) : Calls Tryz.prog 9 #[.string ⟨#[110, 111, 112, 101]⟩, .int .i64 0, .slice none 0 0] w (VRet2 0 0 ⟨#[]⟩ 4 w) :=
  call_none ⟨#[110, 111, 112, 101]⟩ 0 none 0 0 w (by decide) (Lib.hid (by decide))
theorem has_abs (w : World) : Calls Tryz.prog 13 #[.string ⟨#[65, 66, 83]⟩, .int .i64 1] w fun e w' => e = .returned (.bool true) ∧ Below w.heap.size w w' :=
  has_any ⟨#[65, 66, 83]⟩ 1 w (by decide) true (Lib.hid (by decide))

set_option maxHeartbeats 1000000 in
theorem head18_any (w : World) (hL : Lits w) : Calls Tryz.prog 12 #[] w fun e w' => e = .returned (.bool true) ∧ Below w.heap.size w w' := by
  go_enter Tryz.func12, Tryz.ntmps12
  go_wp2_with fail
  refine (rint_any _ _).mono ?_
  rintro e w1 ⟨rfl, hb1⟩
  have hL1 := (hL.below hb1).alloc (.cells #[.int .i64 1, .int .i64 (-3), .string ⟨#[]⟩] 25)
  have hB1 : Below w.heap.size w (w1.alloc (.cells #[.int .i64 1, .int .i64 (-3), .string ⟨#[]⟩] 25)) := below_step hb1 hb1.size (below_new _ _)
  have hz1 : w.heap.size ≤ (w1.alloc (.cells #[.int .i64 1, .int .i64 (-3), .string ⟨#[]⟩] 25)).heap.size := by have := hb1.size; simp; omega
  go_wp2_with fail
  refine (call_abs3 w1.heap.size _ hL1 (heap_new _ _)).mono ?_
  rintro e w2 ⟨rfl, hb2⟩
  have hV2 := startH 1 3 ⟨#[]⟩ (below_step hB1 hz1 hb2) (Nat.le_trans hz1 hb2.size)
  go_wp2_with fail
  refine (call_nope _).mono ?_
  rintro e w3 ⟨rfl, hb3⟩
  have hV3 := keepH (keepH hV2 hb3) (below_new w3 (.cells #[.int .i64 0, .int .i64 0, .string ⟨#[]⟩] 25))
  obtain ⟨c0, c1, c2, hz, hz', hB⟩ := id hV3
  go_wp2_with fail
  go_region_held3 (fun W => W.cell? ⟨w2.heap.size, 0, none⟩ = some (.int .i64 1) ∧ W.cell? ⟨w2.heap.size, 1, none⟩ = some (.int .i64 3) ∧ W.cell? ⟨w2.heap.size, 2, none⟩ = some (.string ⟨#[]⟩) ∧ w2.heap.size < W.heap.size ∧ w.heap.size ≤ W.heap.size ∧ Below w.heap.size w W) (first | assumption | exact keepH (by assumption) (by assumption) | exact keepHd (by assumption)) (first
    | (go_at_call 20; refine (rint_any _ _).mono ?_; rintro e w5 ⟨rfl, hb5⟩)
    | (go_at_call 13; refine (has_abs _).mono ?_; rintro e w6 ⟨rfl, hb6⟩))
  all_goals (
    go_wp2
    go_ret
    exact ⟨rfl, by rename_i hh; exact hh.2.2.2.2.2⟩)

end Go.Proofs.YtmkgalcojoeniaaGreatDoor
