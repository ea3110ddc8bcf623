/- Runs of like rows: as the program cuts them (Groups of package sorter). Rows that may (law.go's may). Walks: Groups of package sorter. -/
import Derived.Test.YtdapnemcdgjeeaaDoorSetsl
import Derived.Test.YtdapnemcdgjeeaaDoorStb3
import Derived.Test.YtdapnemcdgjeeaaDoorMark
import Derived.Deep.RegionHeld3
set_option maxRecDepth 100000
set_option linter.unusedVariables false
set_option linter.unusedSimpArgs false
namespace Go.Proofs.YtdapnemcdgjeeaaDoor.Stb
variable {α : Type}

/-- the runs among the first i -/
def runsN (e : α → α → Bool) (f : Nat → α) : Nat → List (List α)
  | 0 => []
  | i + 1 => if 0 < i ∧ e (f (i - 1)) (f i) = true then (runsN e f i).dropLast ++ [((runsN e f i).getLast?.getD []) ++ [f i]] else runsN e f i ++ [[f i]]
theorem runs_new {e : α → α → Bool} {f : Nat → α} {i : Nat} (h : ¬ (0 < i ∧ e (f (i - 1)) (f i) = true)) : runsN e f (i + 1) = runsN e f i ++ [[f i]] := by rw [runsN, if_neg h]
theorem runs_on {e : α → α → Bool} {f : Nat → α} {i : Nat} (h : 0 < i ∧ e (f (i - 1)) (f i) = true) {gs : List (List α)} {g : List α} (hg : runsN e f i = gs ++ [g]) : runsN e f (i + 1) = gs ++ [g ++ [f i]] := by
  rw [runsN, if_pos h, hg]
  simp
theorem runs_len (e : α → α → Bool) (f : Nat → α) : ∀ i, (runsN e f i).length ≤ i ∧ (0 < i → 0 < (runsN e f i).length) := by
  intro i
  induction i with
  | zero => exact ⟨Nat.le_refl _, fun h => by omega⟩
  | succ i ih =>
    rw [runsN]
    split
    · simp only [List.length_append, List.length_dropLast, List.length_cons, List.length_nil]
      omega
    · simp only [List.length_append, List.length_cons, List.length_nil]
      omega
theorem runs_flat (e : α → α → Bool) (f : Nat → α) : ∀ i, (runsN e f i).flatten = seg f 0 i := by
  intro i
  induction i with
  | zero => rfl
  | succ i ih =>
    have hs : seg f 0 (i + 1) = seg f 0 i ++ [f i] := by
      unfold seg
      rw [Nat.sub_zero, Nat.sub_zero, List.range'_concat, List.map_append]
      simp
    by_cases h : 0 < i ∧ e (f (i - 1)) (f i) = true
    · have hne : runsN e f i ≠ [] := fun x => by have := (runs_len e f i).2 h.1; rw [x] at this; simp at this
      have h1 : runsN e f i = (runsN e f i).dropLast ++ [(runsN e f i).getLast hne] := (List.dropLast_concat_getLast hne).symm
      rw [runs_on h h1, hs, ← ih]
      conv => rhs; rw [h1]
      simp
    · rw [runs_new h, hs, ← ih]
      simp
theorem runs_ne (e : α → α → Bool) (f : Nat → α) : ∀ i, ∀ g ∈ runsN e f i, g ≠ [] := by
  intro i
  induction i with
  | zero => intro g hg; cases hg
  | succ i ih =>
    intro g hg
    by_cases h : 0 < i ∧ e (f (i - 1)) (f i) = true
    · rw [runsN, if_pos h] at hg
      rcases List.mem_append.1 hg with hg | hg
      · exact ih g ((List.dropLast_sublist _).subset hg)
      · rw [List.mem_singleton.1 hg]; simp
    · rw [runs_new h] at hg
      rcases List.mem_append.1 hg with hg | hg
      · exact ih g hg
      · rw [List.mem_singleton.1 hg]; simp
theorem seg_snoc (f : Nat → α) {a b : Nat} (h : a ≤ b) : seg f a (b + 1) = seg f a b ++ [f b] := by
  unfold seg
  rw [show b + 1 - a = (b - a) + 1 by omega, List.range'_concat, List.map_append]
  have : a + 1 * (b - a) = b := by omega
  rw [this]; rfl
theorem seg_self (f : Nat → α) (a : Nat) : seg f a a = [] := by unfold seg; simp

/-- how the program cuts: the runs so far, and where the open one begins -/
structure Cut (e : α → α → Bool) (f : Nat → α) (N i fr : Nat) (gs : List (List α)) : Prop where
  le : fr ≤ i
  shut : fr = i → gs = runsN e f i
  open_ : fr < i → runsN e f i = gs ++ [seg f fr i]
  next : 0 < i → i < N → (fr < i ↔ e (f (i - 1)) (f i) = true)
  last : i = N → fr = i
theorem Cut.start (e : α → α → Bool) (f : Nat → α) (N : Nat) : Cut e f N 0 0 [] := ⟨Nat.le_refl _, fun _ => rfl, fun h => by omega, fun h => by omega, fun _ => rfl⟩
theorem Cut.grown {e : α → α → Bool} {f : Nat → α} {N i fr : Nat} {gs : List (List α)} (h : Cut e f N i fr gs) (hi : i < N) : runsN e f (i + 1) = gs ++ [seg f fr (i + 1)] := by
  by_cases h1 : fr = i
  · have hn : ¬ (0 < i ∧ e (f (i - 1)) (f i) = true) := fun x => by have := (h.next x.1 hi).2 x.2; omega
    rw [runs_new hn, ← h.shut h1, h1, seg_snoc f (Nat.le_refl _), seg_self]
    rfl
  · have hlt : fr < i := by have := h.le; omega
    have h0 : 0 < i := by omega
    rw [runs_on ⟨h0, (h.next h0 hi).1 hlt⟩ (h.open_ hlt), seg_snoc f h.le]
theorem Cut.shuts {e : α → α → Bool} {f : Nat → α} {N i fr : Nat} {gs : List (List α)} (h : Cut e f N i fr gs) (hi : i < N) (hb : i + 1 = N ∨ e (f i) (f (i + 1)) = false) : Cut e f N (i + 1) (i + 1) (gs ++ [seg f fr (i + 1)]) := by
  refine ⟨Nat.le_refl _, fun _ => (h.grown hi).symm, fun x => by omega, fun _ hN => ?_, fun _ => rfl⟩
  have hb := hb.resolve_left (by omega)
  rw [Nat.add_sub_cancel, hb]
  exact ⟨fun x => by omega, fun x => by cases x⟩
theorem Cut.on {e : α → α → Bool} {f : Nat → α} {N i fr : Nat} {gs : List (List α)} (h : Cut e f N i fr gs) (hi : i + 1 < N) (hb : e (f i) (f (i + 1)) = true) : Cut e f N (i + 1) fr gs := by
  have hle := h.le
  refine ⟨by omega, fun x => by omega, fun _ => h.grown (by omega), fun _ _ => ?_, fun x => by omega⟩
  rw [Nat.add_sub_cancel, hb]
  exact ⟨fun _ => rfl, fun _ => by omega⟩
end Go.Proofs.YtdapnemcdgjeeaaDoor.Stb
namespace Go.Proofs.YtdapnemcdgjeeaaDoor
open Go.RowKit
open Go.Proofs.YtdapnemcdgjeeaaDoor.Ord (atV firstV standV mayRow MRow)
open Go.Proofs.YtdapnemcdgjeeaaDoor.Stb (seg runsN Cut)

/-- whether all values of all rows may -/
def mayRows (rows : List (List Val.V)) : Bool := rows.all fun r => r.all Val.may
theorem mayRows_all {rows : List (List Val.V)} (h : mayRows rows = true) : ∀ r ∈ rows, mayRow r := fun r hr v hv => by
  have := List.all_eq_true.1 h r hr
  exact List.all_eq_true.1 this v hv
set_option maxHeartbeats 1000000 in
theorem mayRows_is (p : Option Addr) (N c : Nat) (rows : List (List Val.V)) (w : World) (hR : RowsAt w p N rows) (hB : RowsB rows) (b : Bool) (hb : Hid (mayRows rows = b)) :
    Calls Tryd.prog 15 #[.slice p N c] w fun e w' => e = .returned (.bool b) ∧ Below w.heap.size w w' := by
  have hlen := hR.1
  have hN : N ≤ 8388608 := by rw [← hlen]; exact hB.1
  replace hlen := Lib.hid hlen
  replace hB := Lib.hid hB
  go_enter Tryd.func15, Tryd.ntmps15
  go_wp2
  go_loopw [3] (fun iv wr => ∃ i : Nat, iv = .int .i64 (i : Int) ∧ i ≤ N ∧ Hid (mayRows (rows.take i) = true) ∧ Below w.heap.size w wr) (fun iv _ => N - (intOf iv).toNat)
  case atStart => exact ⟨0, by go_num, by omega, Lib.hid (by simp [mayRows]), Below.refl _ _⟩
  case round =>
    obtain ⟨i, rfl, hi, hall, hB1⟩ := hrel
    by_cases hlt : i < N
    · have hlB : decide ((i : Int) < (N : Int)) = true := by simp; omega
      obtain ⟨s, b1, off, p1, c1, hs, rfl, hbl, k0, hs1, hv1⟩ := (hR.below hB1).at hlt
      have hmem := List.mem_of_getElem? hs
      have hsl := (hB.out.2 s hmem).1
      have hti : rows.take (i + 1) = rows.take i ++ [s] := by rw [List.take_add_one, hs]; rfl
      have i0 : (0 : Int) ≤ (i : Int) := by omega
      have i1 : (i : Int) < (N : Int) := by omega
      clear hs
      cases hm : s.all Val.may with
      | false =>
        have hc : vcheck s = 2 := by rw [vcheck, if_neg (by rw [hm]; decide)]
        have hbt : mayRows rows = false := by
          cases hx : mayRows rows with
          | false => rfl
          | true => have := List.all_eq_true.1 hx s hmem; rw [hm] at this; cases this
        rw [hb.out] at hbt
        subst hbt
        replace hm := Lib.hid hm
        replace hc := Lib.hid hc
        clear hti hmem
        have k2 := rcheck_any p1 s.length c1 s wr hv1 hsl
        rw [hc.out] at k2
        go_wp2_with (go_at_call 29; refine k2.mono ?_; rintro e w1 ⟨rfl, hb1⟩)
        go_ret
        exact ⟨rfl, hB1.trans (hb1.mono hB1.size)⟩
      | true =>
        have hc : vcheck s = 0 ∨ vcheck s = 3 := by
          rw [vcheck, if_pos hm]
          split
          · exact .inr rfl
          · exact .inl rfl
        have hall2 : mayRows (rows.take (i + 1)) = true := by
          have := hall.out
          unfold mayRows at this ⊢
          rw [hti, List.all_append, this, List.all_cons, hm]
          rfl
        replace hm := Lib.hid hm
        replace hall2 := Lib.hid hall2
        clear hti hmem hall
        have k2 := rcheck_any p1 s.length c1 s wr hv1 hsl
        rcases hc with hc | hc
        all_goals (
          rw [hc] at k2
          replace hc := Lib.hid hc
          go_wp2_with (go_at_call 29; refine k2.mono ?_; rintro e w1 ⟨rfl, hb1⟩)
          go_roundw
          case rel => exact ⟨i + 1, by go_num, by omega, hall2, hB1.trans (hb1.mono hB1.size)⟩
          case measure => simp [intOf]; omega)
    · have hlB : decide ((i : Int) < (N : Int)) = false := by simp; omega
      have hall2 := hall.out
      rw [List.take_of_length_le (by rw [hlen.out]; omega), hb.out] at hall2
      subst hall2
      clear hall
      go_wp2
      go_ret
      exact ⟨rfl, hB1⟩
end Go.Proofs.YtdapnemcdgjeeaaDoor

namespace Go.Proofs.YtdapnemcdgjeeaaDoor
open Go.RowKit
open Go.Proofs.YtdapnemcdgjeeaaDoor.Ord (atV firstV standV mayRow MRow)
open Go.Proofs.YtdapnemcdgjeeaaDoor.Stb (seg runsN Cut)

theorem grp_info : (Tryd.prog.info? 22).map (fun i => (i.zero, i.size, i.bytes)) = some (some (.slice none 0 0), 1, 24) := by kernel_rfl
/-- a slice of slices of rows in memory that was there -/
def GroupsAt (W : World) (p : Option Addr) (N : Nat) (gs : List (List (List Val.V))) : Prop :=
  gs.length = N ∧ (gs = [] ∨ ∃ b off, p = some ⟨b, off, none⟩ ∧ b < W.heap.size ∧ ∀ k g, gs[k]? = some g → ∃ q c, W.cell? ⟨b, off + k, none⟩ = some (.slice q g.length c) ∧ RowsAt W q g.length g)
theorem GroupsAt.below {W W' : World} {p : Option Addr} {N : Nat} {gs : List (List (List Val.V))} (h : GroupsAt W p N gs) (hb : Below W.heap.size W W') : GroupsAt W' p N gs := by
  obtain ⟨h1, h2⟩ := h
  refine ⟨h1, ?_⟩
  rcases h2 with h2 | ⟨b, off, rfl, hl, hc⟩
  · exact .inl h2
  · refine .inr ⟨b, off, rfl, Nat.lt_of_lt_of_le hl hb.size, fun k r hk => ?_⟩
    obtain ⟨q, c, c0, hv⟩ := hc k r hk
    exact ⟨q, c, (hb.cell (p := ⟨b, _, none⟩) hl).trans c0, hv.below hb⟩
theorem GroupsAt.at {W : World} {p : Option Addr} {N : Nat} {gs : List (List (List Val.V))} (h : GroupsAt W p N gs) {k : Nat} (hk : k < N) :
    ∃ g b off q c, gs[k]? = some g ∧ p = some ⟨b, off, none⟩ ∧ b < W.heap.size ∧ W.cell? ⟨b, off + k, none⟩ = some (.slice q g.length c) ∧ RowsAt W q g.length g := by
  have hl : k < gs.length := by rw [h.1]; exact hk
  have hr : gs[k]? = some gs[k] := List.getElem?_eq_getElem hl
  rcases h.2 with h2 | ⟨b, off, rfl, hb, hc⟩
  · rw [h2] at hl; simp at hl
  · obtain ⟨q, c, c0, hv⟩ := hc k _ hr
    exact ⟨gs[k], b, off, q, c, hr, rfl, hb, c0, hv⟩
/-- rows inside rows -/
theorem rows_sub {W : World} {b off N : Nat} {rows : List (List Val.V)} (h : RowsAt W (some ⟨b, off, none⟩) N rows) (f : Nat → List Val.V) (hf : ∀ k r, rows[k]? = some r → f k = r) {a e : Nat} (hae : a ≤ e) (he : e ≤ N) : RowsAt W (some ⟨b, off + a, none⟩) (e - a) (seg f a e) := by
  have hlen : (seg f a e).length = e - a := by unfold seg; simp
  refine ⟨hlen, ?_⟩
  by_cases h0 : a = e
  · subst h0; left; exact Stb.seg_self f a
  · have hk0 : 0 < N := by omega
    right
    obtain ⟨r0, b', off', q0, c0, _, e1, hb, _⟩ := h.at (k := 0) hk0
    injection e1 with e1; injection e1 with e1 e2
    subst e1 e2
    refine ⟨b, off + a, rfl, hb, fun k r hk => ?_⟩
    have hke : k < e - a := by have := (List.getElem?_eq_some_iff.1 hk).1; rw [hlen] at this; exact this
    obtain ⟨r', b', off', q, c, hr', e1, _, c1, hs, hv⟩ := h.at (k := a + k) (by omega)
    injection e1 with e1; injection e1 with e1 e2
    subst e1 e2
    have hrr : r = r' := by
      unfold seg at hk
      rw [List.getElem?_map, List.getElem?_range' (by omega)] at hk
      simp only [Option.map_some, Option.some.injEq] at hk
      rw [← hk, Nat.one_mul]
      exact hf _ _ hr'
    subst hrr
    exact ⟨q, c, by rw [Nat.add_assoc]; exact c1, hs, hv⟩
/-- a slice of slices of rows that the call owns: the rows themselves stood in an earlier world -/
def GroupsOwn (W0 W : World) (v : Value) (n : Nat) (gs : List (List (List Val.V))) : Prop :=
  ∃ cs : List Value, W.ownsRow W0.heap.size 22 1 v n cs ∧ cs.length = n ∧ gs.length = n ∧ ∀ (k : Nat) (u : Value) (g : List (List Val.V)), cs[k]? = some u → gs[k]? = some g → ∃ q c, u = .slice q g.length c ∧ RowsAt W0 q g.length g
theorem GroupsOwn.nil (W0 W : World) : GroupsOwn W0 W (.slice none 0 0) 0 [] := ⟨[], World.ownsRow_nil _ _ _ _, rfl, rfl, fun k u r hk => by simp at hk⟩
theorem GroupsOwn.below {W0 W W' : World} {n : Nat} {v : Value} {gs : List (List (List Val.V))} (h : GroupsOwn W0 W v n gs) (hb : Below W.heap.size W W') : GroupsOwn W0 W' v n gs := by
  obtain ⟨cs, h1, h2, h3, h4⟩ := h
  have hg : W.grownBy W' none := ⟨hb.os, hb.tape, hb.output, hb.size, fun k hk _ => hb.block k hk⟩
  exact ⟨cs, h1.kept hg (by cases v.ownBlock <;> simp), h2, h3, h4⟩
theorem GroupsOwn.at {W0 W : World} {q : Option Addr} {n c : Nat} {gs : List (List (List Val.V))} (h : GroupsOwn W0 W (.slice q n c) n gs) (hb : Below W0.heap.size W0 W) : GroupsAt W q n gs := by
  obtain ⟨cs, h1, h2, h3, h4⟩ := h
  refine ⟨h3, ?_⟩
  by_cases h0 : n = 0
  · subst h0; left; exact List.eq_nil_of_length_eq_zero h3
  · right
    obtain ⟨g, cap, hf, hbg, hgl⟩ := h1.form (by omega)
    injection hf with e1 e2 e3
    subst e1 e3
    refine ⟨g, 0, rfl, hgl, fun k gr hk => ?_⟩
    have hkn : k < n := by have := (List.getElem?_eq_some_iff.1 hk).1; omega
    have hu : cs[k]? = some cs[k] := List.getElem?_eq_getElem (by omega)
    obtain ⟨q', c', e, hr⟩ := h4 k _ gr hu hk
    refine ⟨q', c', ?_, hr.below hb⟩
    rw [Nat.zero_add, h1.cellAt k (by omega), hu, e]
theorem grp_push {W0 w1 : World} {v' : Value} {n : Nat} {gs : List (List (List Val.V))} {q : Option Addr} {c : Nat} {g : List (List Val.V)} {cs : List Value} (h2 : cs.length = n) (h3 : gs.length = n)
    (h4 : ∀ (k : Nat) (u : Value) (g : List (List Val.V)), cs[k]? = some u → gs[k]? = some g → ∃ q c, u = .slice q g.length c ∧ RowsAt W0 q g.length g) {m : Nat} (hr : RowsAt W0 q m g) (hown : w1.ownsRow W0.heap.size 22 1 v' (n + 1) (cs ++ (#[.slice q m c] : Array Value).toList)) :
    GroupsOwn W0 w1 v' (n + 1) (gs ++ [g]) := by
  obtain rfl := hr.1
  refine ⟨cs ++ [.slice q g.length c], by simpa using hown, by simp [h2], by simp [h3], fun k y z hk hz => ?_⟩
  by_cases hkn : k < n
  · rw [List.getElem?_append_left (by omega)] at hk hz
    exact h4 k y z hk hz
  · have hk0 : k = n := by
      have := (List.getElem?_eq_some_iff.1 hk).1
      simp [h2] at this; omega
    subst hk0
    rw [List.getElem?_append_right (by omega)] at hk hz
    rw [h2] at hk
    rw [h3] at hz
    simp at hk hz
    subst hk hz
    exact ⟨q, c, rfl, hr⟩
/-- like in the first columns -/
def likeV (width : Int) (a b : List Val.V) : Bool := decide (firstV a width = firstV b width)
/-- the runs of sorted rows -/
def groupsV (width : Int) (rows : List (List Val.V)) : List (List (List Val.V)) := runsN (likeV width) (fun k => (sortV [] width rows).getD k []) (sortV [] width rows).length
/-- what Groups answers -/
def GroupsP (gs : List (List (List Val.V))) (w : World) (e : Ending) (w' : World) : Prop :=
  ∃ q n c, e = .returned (.slice q n c) ∧ GroupsAt w' q n gs ∧ Below w.heap.size w w'
theorem bs_list (l : List UInt8) : (bs l).toList = l := by rw [Lib.toList_data]; rfl
theorem sort_len (ks : List Ord.Key) (width : Int) (rows : List (List Val.V)) : (sortV ks width rows).length = rows.length := (Stb.isort_perm _ rows).length_eq
theorem sort_mem (ks : List Ord.Key) (width : Int) (rows : List (List Val.V)) {r : List Val.V} : r ∈ sortV ks width rows ↔ r ∈ rows := (Stb.isort_perm _ rows).mem_iff
set_option maxHeartbeats 4000000 in
theorem sgroups_is (T : Lib.PrintTabs) (p : Option Addr) (N c : Nat) (rows : List (List Val.V)) (width : Int) (w : World) (hR : RowsAt w p N rows) (hB : RowsB rows) (hI : RowsI rows) (hM : ∀ r ∈ rows, mayRow r) (hT : Tabs T w) :
    Calls Tryd.prog 16 #[.slice p N c, .int .i64 width] w (GroupsP (groupsV width rows) w) := by
  have hlen := hR.1
  have hN : N ≤ 8388608 := by rw [← hlen]; exact hB.1
  obtain ⟨S, hS⟩ : ∃ S, sortV [] width rows = S := ⟨_, rfl⟩
  have hSl : S.length = N := by rw [← hS, sort_len, hlen]
  have hSB : ∀ r ∈ S, r.length ≤ 1048576 ∧ ∀ v ∈ r, Val.inr v.kind ∧ Val.inr v.int ∧ v.text.length ≤ 1048576 := by
    intro r hr
    rw [← hS, sort_mem] at hr
    exact ⟨(hB.2 r hr).1, hI r hr⟩
  have hG : groupsV width rows = runsN (likeV width) (fun k => S.getD k []) N := by unfold groupsV; rw [hS, hSl]
  obtain ⟨f, hf⟩ : ∃ f : Nat → List Val.V, (fun k => S.getD k []) = f := ⟨_, rfl⟩
  have hff : ∀ k r, S[k]? = some r → f k = r := by intro k r h; rw [← hf]; simp [List.getD, h]
  have hs := ssort_is p N c rows none 0 0 [] width w hR hB hM ⟨rfl, .inl rfl⟩ (by omega)
  rw [hf] at hG
  rw [hS] at hs
  rw [hG]
  replace hG := Lib.hid hG
  replace hS := Lib.hid hS
  replace hSl := Lib.hid hSl
  replace hSB := Lib.hid hSB
  replace hff := Lib.hid hff
  replace hT := Lib.hid hT
  clear hB hI hM hlen hf hR
  go_enter Tryd.func16, Tryd.ntmps16
  go_wp2_with (go_at_call 18; refine hs.mono ?_; rintro e w1 ⟨q1, c1, rfl, hs1, hR1, hb1⟩)
  go_loopw [6, 7, 14] (fun ov fv iv wr => ∃ (po : Option Addr) (n co fr i : Nat) (gs : List (List (List Val.V))), ov = .slice po n co ∧ fv = .int .i64 (fr : Int) ∧ iv = .int .i64 (i : Int) ∧ i ≤ N ∧ n ≤ i ∧ GroupsOwn w1 wr (.slice po n co) n gs ∧ Hid (Cut (likeV width) f N i fr gs) ∧ Below w1.heap.size w1 wr) (fun _ _ iv _ => N - (intOf iv).toNat)
  case atStart => exact ⟨none, 0, 0, 0, 0, [], rfl, by go_num, by go_num, by omega, by omega, GroupsOwn.nil _ _, Lib.hid (Cut.start _ _ _), Below.refl _ _⟩
  case round =>
    obtain ⟨po, n, co, fr, i, gs, rfl, rfl, rfl, hi, hni, hown, hcut, hb⟩ := hrel
    by_cases hlt : i < N
    · have hlB : decide ((i : Int) < (N : Int)) = true := by simp; omega
      obtain ⟨ra, b, off, qa, ca, hra, rfl, hbl, ka, hsa, hva⟩ := (hR1.below hb).at hlt
      have hfle := hcut.out.le
      have hw : IntKind.i64.wrap ((i : Int) + 1) = (i : Int) + 1 := IntWalk.i64_in _ (by omega)
      have i0 : (0 : Int) ≤ (i : Int) := by omega
      have i1 : (i : Int) < (N : Int) := by omega
      have j0 : (0 : Int) ≤ (fr : Int) := by omega
      have j1 : (fr : Int) ≤ (i : Int) + 1 := by omega
      have j2 : (i : Int) + 1 ≤ (c1 : Int) := by have := hs1.1; omega
      have j3 : (i : Int) < (c1 : Int) := by have := hs1.1; omega
      have j4 : i < c1 := by have := hs1.1; omega
      have j5 : i + 1 ≤ c1 := by omega
      have j6 : fr ≤ i + 1 := by omega
      have j7 : ((i : Int) + 1 - (fr : Int)).toNat = i + 1 - fr := by omega
      have j9 : ¬ (i + 1 = fr) := by omega
      have j8 : ((i : Int) + 1).toNat = i + 1 := by omega
      have hsub := rows_sub hR1 f hff.out (a := fr) (e := i + 1) (by omega) (by omega)
      by_cases hla : i + 1 = N
      · have hq : ((i : Int) + 1 == (N : Int)) = true := by simp; omega
        have hcut2 := hcut.out.shuts hlt (.inl hla)
        replace hla := Lib.hid hla
        go_wp2_with fail
        go_quiet (fail)
        have hbd := hb.trans ((below_drewN (Below.refl wr.heap.size wr) nq).mono hb.size)
        have hownd := hown.below (below_drewN (Below.refl wr.heap.size wr) nq)
        generalize wr.drewN nq = W2 at hbd hownd ⊢
        obtain ⟨cs, o1, o2, o3, o4⟩ := hownd
        replace o2 := Lib.hid o2
        replace o3 := Lib.hid o3
        replace o4 := Lib.hid o4
        replace hcut2 := Lib.hid hcut2
        replace hsub := Lib.hid hsub
        clear hra ka hsa hva hown hcut hff hS hSl hG hs
        go_wp2_with (at_builtin; go_must (refine wpList_push rfl _ _ 37 rfl w1.heap.size 22 Tryd.underlying37 grp_info rfl (by decide) _ _ _ rfl o1 _ rfl rfl (sl_one _ _ _) (by omega) (by decide) hbd.size ?_); rintro _ w2 hown' hb2 ⟨g', cap', rfl⟩ _)
        go_roundw
        case rel => exact ⟨some ⟨g', 0, none⟩, n + 1, cap', i + 1, i + 1, gs ++ [seg f fr (i + 1)], rfl, by go_num, by go_num, by omega, by omega, grp_push o2.out o3.out o4.out hsub.out hown', hcut2, hbd.trans hb2⟩
        case measure => simp [intOf]; omega
      · have hq : ((i : Int) + 1 == (N : Int)) = false := by simp; omega
        have hi1 : i + 1 < N := by omega
        obtain ⟨rb, b', off', qb, cb, hrb, e1, _, kb, hsb, hvb⟩ := (hR1.below hb).at hi1
        injection e1 with e1; injection e1 with e1 e2
        subst e1 e2
        have fa := hff.out i ra hra
        have fb := hff.out (i + 1) rb hrb
        have ma' := hSB.out ra (List.mem_of_getElem? hra)
        have mb' := hSB.out rb (List.mem_of_getElem? hrb)
        obtain ⟨M1, hM1⟩ : ∃ M, M = min width.toNat ra.length := ⟨_, rfl⟩
        obtain ⟨M2, hM2⟩ : ∃ M, M = min width.toNat rb.length := ⟨_, rfl⟩
        have v1 := vals_firstV hva (Lib.hid hM1)
        have v2 := vals_firstV hvb (Lib.hid hM2)
        have n1 : ∀ v ∈ firstV ra width, Val.inr v.kind ∧ Val.inr v.int ∧ v.text.length ≤ 1048576 := fun v hv => ma'.2 v (List.mem_of_mem_take hv)
        have n2 : ∀ v ∈ firstV rb width, Val.inr v.kind ∧ Val.inr v.int ∧ v.text.length ≤ 1048576 := fun v hv => mb'.2 v (List.mem_of_mem_take hv)
        have k1 : MarkOk wr qa M1 ca (Quo.markB T (firstV ra width)) := ⟨fun W hW => mark_any T qa M1 ca _ W (v1.below hW) (by have := ma'.1; omega) n1 ((hT.out.below (hb1.trans (hb.mono hb1.size))).below hW)⟩
        have k2 : MarkOk wr qb M2 cb (Quo.markB T (firstV rb width)) := ⟨fun W hW => mark_any T qb M2 cb _ W (v2.below hW) (by have := mb'.1; omega) n2 ((hT.out.below (hb1.trans (hb.mono hb1.size))).below hW)⟩
        have hinj := Quo.mark_inj T (fun v hv => ⟨(n1 v hv).1, (n1 v hv).2.1⟩) (fun v hv => ⟨(n2 v hv).1, (n2 v hv).2.1⟩)
        have hlk : likeV width (f i) (f (i + 1)) = decide (firstV ra width = firstV rb width) := by rw [fa, fb]; rfl
        obtain ⟨xa, hxa⟩ : ∃ m, Quo.markB T (firstV ra width) = m := ⟨_, rfl⟩
        obtain ⟨xb, hxb⟩ : ∃ m, Quo.markB T (firstV rb width) = m := ⟨_, rfl⟩
        rw [hxa, hxb] at hinj
        rw [hxa] at k1
        rw [hxb] at k2
        have H0 : wr.cell? ⟨b, off + i, none⟩ = some (.slice qa ra.length ca) ∧ wr.cell? ⟨b, off + (i + 1), none⟩ = some (.slice qb rb.length cb) ∧ Below wr.heap.size wr wr := ⟨ka, kb, Below.refl _ _⟩
        have s1 := hsa.1
        have s2 := hsb.1
        have m0 : (0 : Int) ≤ (i : Int) + 1 := by omega
        have m1 : (i : Int) + 1 < (N : Int) := by omega
        replace hM1 := Lib.hid hM1
        replace hM2 := Lib.hid hM2
        clear fa fb ma' mb' v1 v2 n1 n2 hxa hxb hva hvb kb hsb hrb
        cases hx : decide (firstV ra width = firstV rb width) with
        | false =>
          have hne : ((bs xa).toList == (bs xb).toList) = false := by
            have this : xa ≠ xb := fun e => of_decide_eq_false hx (hinj.1 e)
            rw [bs_list, bs_list]
            simpa using this
          rw [hx] at hlk
          have hcut2 := hcut.out.shuts hlt (.inr hlk)
          clear hlk hx hinj
          go_wp2_with fail
          go_region_held3 (fun W => W.cell? ⟨b, off + i, none⟩ = some (.slice qa ra.length ca) ∧ W.cell? ⟨b, off + (i + 1), none⟩ = some (.slice qb rb.length cb) ∧ Below wr.heap.size wr W) (first | assumption | exact keepC2 hbl hbl (by assumption) (by assumption) | exact keepC20 (by assumption)) (first
            | (go_at_call_of 30 (Value.slice qa ra.length ca); refine (sfirst_is qa ra.length ca width _ s1 M1 hM1).mono ?_; rintro e w3 ⟨rfl, rfl⟩)
            | (go_at_call_of 30 (Value.slice qb rb.length cb); refine (sfirst_is qb rb.length cb width _ s2 M2 hM2).mono ?_; rintro e w3 ⟨rfl, rfl⟩)
            | (go_at_call_of 21 (Value.slice qa M1 ca); have hSS := (by assumption : _ ∧ _ ∧ Below wr.heap.size wr _); refine (k1.on _ hSS.2.2).mono ?_; rintro e w3 ⟨rfl, hb3⟩)
            | (go_at_call_of 21 (Value.slice qb M2 cb); have hSS := (by assumption : _ ∧ _ ∧ Below wr.heap.size wr _); refine (k2.on _ hSS.2.2).mono ?_; rintro e w3 ⟨rfl, hb3⟩))
          rename_i hS3
          have hb3 := hS3.2.2
          have hbd := hb.trans (hb3.mono hb.size)
          have hownd := hown.below hb3
          clear hS3 k1 k2
          obtain ⟨cs, o1, o2, o3, o4⟩ := hownd
          replace o2 := Lib.hid o2
          replace o3 := Lib.hid o3
          replace o4 := Lib.hid o4
          replace hcut2 := Lib.hid hcut2
          replace hsub := Lib.hid hsub
          clear hcut hff hS hSl hG hs hown
          go_wp2_with (at_builtin; go_must (refine wpList_push rfl _ _ 37 rfl w1.heap.size 22 Tryd.underlying37 grp_info rfl (by decide) _ _ _ rfl o1 _ rfl rfl (sl_one _ _ _) (by omega) (by decide) hbd.size ?_); rintro _ w2 hown' hb2 ⟨g', cap', rfl⟩ _)
          go_roundw
          case rel => exact ⟨some ⟨g', 0, none⟩, n + 1, cap', i + 1, i + 1, gs ++ [seg f fr (i + 1)], rfl, by go_num, by go_num, by omega, by omega, grp_push o2.out o3.out o4.out hsub.out hown', hcut2, hbd.trans hb2⟩
          case measure => simp [intOf]; omega
        | true =>
          have hne : ((bs xa).toList == (bs xb).toList) = true := by
            have this : xa = xb := hinj.2 (of_decide_eq_true hx)
            rw [this]
            simp
          rw [hx] at hlk
          have hcut2 := hcut.out.on hi1 hlk
          clear hlk hx hinj
          go_wp2_with fail
          go_region_held3 (fun W => W.cell? ⟨b, off + i, none⟩ = some (.slice qa ra.length ca) ∧ W.cell? ⟨b, off + (i + 1), none⟩ = some (.slice qb rb.length cb) ∧ Below wr.heap.size wr W) (first | assumption | exact keepC2 hbl hbl (by assumption) (by assumption) | exact keepC20 (by assumption)) (first
            | (go_at_call_of 30 (Value.slice qa ra.length ca); refine (sfirst_is qa ra.length ca width _ s1 M1 hM1).mono ?_; rintro e w3 ⟨rfl, rfl⟩)
            | (go_at_call_of 30 (Value.slice qb rb.length cb); refine (sfirst_is qb rb.length cb width _ s2 M2 hM2).mono ?_; rintro e w3 ⟨rfl, rfl⟩)
            | (go_at_call_of 21 (Value.slice qa M1 ca); have hSS := (by assumption : _ ∧ _ ∧ Below wr.heap.size wr _); refine (k1.on _ hSS.2.2).mono ?_; rintro e w3 ⟨rfl, hb3⟩)
            | (go_at_call_of 21 (Value.slice qb M2 cb); have hSS := (by assumption : _ ∧ _ ∧ Below wr.heap.size wr _); refine (k2.on _ hSS.2.2).mono ?_; rintro e w3 ⟨rfl, hb3⟩))
          rename_i hS3
          have hb3 := hS3.2.2
          replace hcut2 := Lib.hid hcut2
          clear hS3 k1 k2
          go_wp2
          go_roundw
          case rel => exact ⟨po, n, co, fr, i + 1, gs, rfl, rfl, by go_num, by omega, by omega, hown.below hb3, hcut2, hb.trans (hb3.mono hb.size)⟩
          case measure => simp [intOf]; omega
    · have hlB : decide ((i : Int) < (N : Int)) = false := by simp; omega
      have hiN : i = N := by omega
      have hfr := hcut.out.last hiN
      have hgs := hcut.out.shut hfr
      rw [hiN] at hgs
      subst hgs
      replace hcut := Lib.hid hcut.out
      go_wp2
      go_ret
      exact ⟨po, n, co, rfl, hown.at hb, hb1.trans (hb.mono hb1.size)⟩
end Go.Proofs.YtdapnemcdgjeeaaDoor

