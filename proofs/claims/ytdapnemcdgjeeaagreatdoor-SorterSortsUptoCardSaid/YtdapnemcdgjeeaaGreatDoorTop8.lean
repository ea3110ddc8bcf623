/- The first rows in order: what the heap holds, as the sort takes it; what comes out. -/
import Derived.Test.YtdapnemcdgjeeaaGreatDoorTopA
import Derived.Test.YtdapnemcdgjeeaaGreatDoorSorB
import Derived.Test.YtdapnemcdgjeeaaGreatDoorPdqA
import Derived.Test.YtdapnemcdgjeeaaGreatDoorPdqP
set_option maxRecDepth 100000
set_option linter.unusedVariables false
set_option linter.unusedSimpArgs false
namespace Go.Proofs.YtdapnemcdgjeeaaGreatDoor
open Go.RowKit Go.Deep
open Go.Proofs.YtdapnemcdgjeeaaGreatDoor.Stb (swap seg seg_mem Heap SWO heap_top Best isort isort_any isort_sorted)
open Go.Proofs.YtdapnemcdgjeeaaGreatDoor.Ord (standV mayRow)
open Go.Proofs.YtdapnemcdgjeeaaGreatDoor.Tp (ltI cfI ltI_swo ltI_apart cfI_neg ltR' top_rows)
open Go.Sort (PermIn SortedIn)

theorem seg_len {α : Type} (f : Nat → α) (n : Nat) : (seg f 0 n).length = n := by unfold seg; simp
theorem best_nodup {lt : Nat → Nat → Bool} {n N : Nat} {held : List Nat} (h : Best lt n (List.range N) held) : held.Nodup ∧ ∀ x ∈ held, x < N := by
  obtain ⟨rest, p, _, _⟩ := h.ex
  have hn : (held ++ rest).Nodup := p.nodup_iff.1 List.nodup_range
  exact ⟨(List.nodup_append.1 hn).1, fun x hx => List.mem_range.1 (p.mem_iff.2 (List.mem_append_left _ hx))⟩
theorem best_some {lt : Nat → Nat → Bool} {n N : Nat} {f : Nat → Nat} {m : Nat} (h : Best lt n (List.range N) (seg f 0 m)) (hn : 0 < n) (hN : 0 < N) : 0 < m := by
  rcases Nat.eq_zero_or_pos m with e | e
  · subst e
    obtain ⟨rest, p, _, h3⟩ := h.ex
    have hr := h3 (by rw [seg_len]; exact hn)
    have := p.length_eq
    rw [hr, List.append_nil, seg_len, List.length_range] at this
    omega
  · exact e
theorem best_in {lt : Nat → Nat → Bool} {n i m : Nat} {f f1 : Nat → Nat} (h : Best lt n (List.range i) (seg f 0 m)) (hl : m < n) (hp : (seg f1 0 (m + 1)).Perm (seg f 0 m ++ [i])) : Best lt n (List.range (i + 1)) (seg f1 0 (m + 1)) := by
  rw [List.range_succ]
  exact (h.push (by rw [seg_len]; exact hl)).same hp.symm
theorem best_out {lt : Nat → Nat → Bool} (hs : SWO lt) (hT : ∀ x y, lt x y = false → lt y x = false → x = y) {n i m : Nat} {f f1 f2 : Nat → Nat} (h : Best lt n (List.range i) (seg f 0 m)) (hl : m = n) (hp : (seg f1 0 (m + 1)).Perm (seg f 0 m ++ [i]))
    (hh : Heap lt f1 (m + 1)) (hp2 : (seg f2 0 m ++ [f1 0]).Perm (seg f1 0 (m + 1))) : Best lt n (List.range (i + 1)) (seg f2 0 m) := by
  rw [List.range_succ]
  refine h.pop hs (by rw [seg_len]; exact hl) (hp.symm.trans hp2.symm) (fun a ha => ?_)
  have hmem : a ∈ seg f1 0 (m + 1) := hp2.mem_iff.1 (List.mem_append_left _ ha)
  obtain ⟨k, _, hk, rfl⟩ := seg_mem hmem
  have h1 := heap_top hs hh k hk
  cases hc : lt (f1 k) (f1 0) with
  | true => rfl
  | false =>
    have e := hT _ _ hc h1
    obtain ⟨n1, n2⟩ := best_nodup h
    have hnd : (seg f 0 m ++ [i]).Nodup := List.nodup_append.2 ⟨n1, by simp, fun a ha b hb => by
      have := n2 a ha
      simp at hb
      omega⟩
    have hnd2 := (hp2.trans hp).nodup_iff.2 hnd
    have := (List.nodup_append.1 hnd2).2.2 _ ha (f1 0) (by simp)
    exact absurd e this
theorem arr_at (f : Nat → Nat) (n k : Nat) (hk : k < n) : (seg f 0 n).toArray[k]! = f k := by
  rw [getElem!_def, List.getElem?_toArray, seg_at f n k hk]
theorem swo_turn {lt : Nat → Nat → Bool} (h : SWO lt) : Go.Sort.SWO lt := ⟨fun a => h.irr a, fun a b c => h.trans a b c, fun a b c => h.ntrans a b c⟩
/-- what comes out: the first rows in order -/
theorem held_sorted (ks : List Ord.Key) (width : Int) {rows : Nat → List Val.V} (hM : ∀ k, mayRow (rows k)) {n N m : Nat} {f : Nat → Nat} {d : Array Nat} (hB : Best (ltI ks width rows) n (List.range N) (seg f 0 m)) (hp : PermIn 0 m (seg f 0 m).toArray d) (hs : SortedIn (ltI ks width rows) 0 m d) :
    d.toList.map rows = (isort (ltR' ks width) ((List.range N).map rows)).take n := by
  have hsz : (seg f 0 m).toArray.size = m := by simp [seg_len]
  have hperm : d.toList.Perm (seg f 0 m) := Pdq.perm_whole (Nat.le_of_eq hsz.symm) hp
  have hdm : d.size = m := by rw [hp.1, hsz]
  have hsorted : Stb.Sorted (ltI ks width rows) d.toList := by
    refine List.pairwise_iff_getElem.2 fun i j hi hj hij => ?_
    have := hs i j (Nat.zero_le _) hij (by rw [← hdm]; simpa using hj)
    rw [getElem!_pos d i (by simpa using hi), getElem!_pos d j (by simpa using hj)] at this
    exact this
  have e : d.toList = isort (ltI ks width rows) (seg f 0 m) := by
    rw [← isort_any (ltI_swo ks width hM) (ltI_apart ks width hM) hperm]
    exact (isort_sorted hsorted).symm
  rw [e]
  exact top_rows ks width hM hB
/-- the heap's rows, as the sort takes them -/
theorem rh_of {W : World} {B b n N : Nat} {rv : Nat → Value} {F : Value} {f : Nat → Nat} (h : WAt W B rv F b n f) (hn : 0 < n) (hsl : ∀ k, ∃ q m c, rv k = .slice q m c) (hf : ∀ k, k < n → f k < N) :
    ∃ g c, W.cell? ⟨b, 0, none⟩ = some (.slice (some ⟨g, 0, none⟩) n c) ∧ W.cell? ⟨b, 1, none⟩ = some F ∧ b < W.heap.size ∧ B ≤ g ∧ g ≠ b ∧ Pdq.RH rv W g n N (seg f 0 n).toArray W := by
  obtain ⟨g, c, h1, _, hne, hB, hg, hfr, hc⟩ := h.form hn
  refine ⟨g, c, h1.cell 0, h1.cell 1, h1.lt, hB, hne, ?_⟩
  refine ⟨by simp [seg_len], fun k hk => ?_, hfr, fun k hk => ?_, World.grownBy.refl _ _, hg, fun x => ?_⟩
  · rw [arr_at f n k hk]; exact hc k hk
  · rw [arr_at f n k hk]; exact hf k hk
  · obtain ⟨q, m, c, e⟩ := hsl x; exact ⟨q, m, c, e⟩
theorem uniq_of {lt : Nat → Nat → Bool} {n N m : Nat} {f : Nat → Nat} (h : Best lt n (List.range N) (seg f 0 m)) : Pdq.Uniq (seg f 0 m).toArray := (best_nodup h).1
/-- what of the elder memory stays through the sort -/
theorem below_row {w0 W0 W : World} {g : Nat} (hW : Below w0.heap.size w0 W0) (hG : W0.grownBy W (some g)) (hg : w0.heap.size ≤ g) : Below w0.heap.size w0 W :=
  hW.trans ⟨hG.os, hG.tape, hG.output, hG.size, fun k hk => hG.block k (Nat.lt_of_lt_of_le hk hW.size) (by simp; omega)⟩
theorem cmp_of {w0 W0 : World} {N b g : Nat} {rv : Nat → Value} {F : Value} {cf : Nat → Nat → Int} (hS : HStandOk w0 N b rv F cf) (hW : Below w0.heap.size w0 W0) (hF : W0.cell? ⟨b, 1, none⟩ = some F) (hb : b < W0.heap.size) (hne : g ≠ b) (hg : w0.heap.size ≤ g) :
    Pdq.CmpH rv N (fun x y => decide (cf x y < 0)) W0 g b :=
  ⟨fun W x y hx hy hG => (hS W x y hx hy (below_row hW hG hg) ((hG.cell_far ⟨b, 1, none⟩ hb (fun e => hne (by injection e with e; exact e.symm))).trans hF) (Nat.lt_of_lt_of_le hb hG.size)).mono fun e w' ⟨h1, h2⟩ => ⟨_, h1, by simp, h2⟩⟩
/-- row k -/
def rowF (rows : List (List Val.V)) (k : Nat) : List Val.V := rows.getD k []
theorem rowF_at {rows : List (List Val.V)} {k : Nat} {r : List Val.V} (h : rows[k]? = some r) : rowF rows k = r := by
  unfold rowF
  rw [List.getD_eq_getElem?_getD, h]
  rfl
theorem rowF_may {rows : List (List Val.V)} (h : ∀ r ∈ rows, mayRow r) (k : Nat) : mayRow (rowF rows k) := by
  cases hk : rows[k]? with
  | some r => rw [rowF_at hk]; exact h r (List.mem_of_getElem? hk)
  | none =>
    unfold rowF
    rw [List.getD_eq_getElem?_getD, hk]
    intro v hv
    cases hv
theorem rowF_all (rows : List (List Val.V)) : (List.range rows.length).map (rowF rows) = rows := by
  refine List.ext_getElem (by simp) fun i h1 h2 => ?_
  simp only [List.getElem_map, List.getElem_range]
  exact rowF_at (List.getElem?_eq_getElem h2)
/-- the rows' values -/
structure RvOk (w : World) (p : Option Addr) (N : Nat) (rows : List (List Val.V)) (rv : Nat → Value) : Prop where
  sl : ∀ k, ∃ q m c, rv k = .slice q m c
  at_ : ∀ k, k < N → (∃ b off, p = some ⟨b, off, none⟩ ∧ b < w.heap.size ∧ w.cell? ⟨b, off + k, none⟩ = some (rv k)) ∧ ∃ q c, rv k = .slice q (rowF rows k).length c ∧ SlOk q (rowF rows k).length c ∧ ValsAt w q (rowF rows k).length (rowF rows k) ∧ rowF rows k ∈ rows
theorem rv_ok {w : World} {p : Option Addr} {N : Nat} {rows : List (List Val.V)} (hR : RowsAt w p N rows) : ∃ rv, RvOk w p N rows rv := by
  have each : ∀ k, k < N → ∃ u : Value, (∃ b off, p = some ⟨b, off, none⟩ ∧ b < w.heap.size ∧ w.cell? ⟨b, off + k, none⟩ = some u) ∧ ∃ q c, u = .slice q (rowF rows k).length c ∧ SlOk q (rowF rows k).length c ∧ ValsAt w q (rowF rows k).length (rowF rows k) ∧ rowF rows k ∈ rows := by
    intro k hk
    obtain ⟨r, b, off, q, c, hr, hp, hl, hc, hs, hv⟩ := hR.at hk
    rw [rowF_at hr]
    exact ⟨_, ⟨b, off, hp, hl, hc⟩, q, c, rfl, hs, hv, List.mem_of_getElem? hr⟩
  haveI : Inhabited Value := ⟨.slice none 0 0⟩
  obtain ⟨u, hu⟩ := choose_lt each
  refine ⟨fun k => if k < N then u k else .slice none 0 0, fun k => ?_, fun k hk => ?_⟩
  · by_cases hk : k < N
    · obtain ⟨_, q, c, e, _⟩ := hu k hk
      exact ⟨q, _, c, by rw [if_pos hk, e]⟩
    · exact ⟨none, 0, 0, by rw [if_neg hk]⟩
  · rw [if_pos hk]
    exact hu k hk
theorem ord_ok {w w0 : World} {p : Option Addr} {N : Nat} {rows : List (List Val.V)} {rv : Nat → Value} (hV : RvOk w p N rows rv) (hB : RowsB rows) (hW : Below w.heap.size w w0) (sk : Option Addr) (KN kc : Nat) (ks : List Ord.Key) (width : Int) (g1 g2 : Nat) (hK : KeysAt w0 sk KN ks) (hKN : KN ≤ 1048576)
    (h1 : w0.cell? ⟨g1, 0, none⟩ = some (.slice sk KN kc)) (h2 : w0.cell? ⟨g2, 0, none⟩ = some (.int .i64 width)) (l1 : g1 < w0.heap.size) (l2 : g2 < w0.heap.size) :
    OrdOk w0 N rv g1 g2 (fun k j => standV ks width (rowF rows k) (rowF rows j)) := by
  intro W k j hk hj hW2
  obtain ⟨_, q, c, e, hs, hv, hm⟩ := hV.at_ k hk
  obtain ⟨_, q', c', e', hs', hv', hm'⟩ := hV.at_ j hj
  have hb : Below w.heap.size w W := hW.trans (hW2.mono hW.size)
  rw [e, e']
  exact order_is q _ c q' _ c' _ _ sk KN kc ks width g1 g2 W (hv.below hb) (hv'.below hb) (hK.below hW2) ((hW2.cell (p := ⟨g1, 0, none⟩) l1).trans h1) ((hW2.cell (p := ⟨g2, 0, none⟩) l2).trans h2) (Nat.lt_of_lt_of_le l2 hW2.size) (hB.2 _ hm).1 (hB.2 _ hm').1 hKN hs.1 hs'.1 (hB.2 _ hm).2 (hB.2 _ hm').2 _ (Lib.hid rfl)
/-- what the heap's walks ask, of rows and keys -/
theorem top_ok {w0 : World} {N b : Nat} {rows : List (List Val.V)} {rv : Nat → Value} {g1 g2 : Nat} (ks : List Ord.Key) (width : Int) (hsl : ∀ k, ∃ q m c, rv k = .slice q m c) (hM : ∀ r ∈ rows, mayRow r) (hO : OrdOk w0 N rv g1 g2 (fun k j => standV ks width (rowF rows k) (rowF rows j))) (hb : w0.heap.size ≤ b) :
    TopOk w0 N b rv (ordF g1 g2) (cfI ks width (rowF rows)) :=
  ⟨hstand_is w0 N b rv g1 g2 _ hO hsl, fun x y => cfI_neg ks width (rowF_may hM) x y, ltI_swo ks width (rowF_may hM), hsl, hb⟩
theorem heap_nil (w1 : World) (rv : Nat → Value) (F : Value) : WAt (w1.alloc (.cells #[.slice none 0 0, F] 74)) w1.heap.size rv F w1.heap.size 0 (fun _ => 0) :=
  ⟨none, 0, Blk.new w1 _ _, ⟨[], World.ownsRow_nil _ _ _ _, fun k hk => by omega⟩, by simp [Value.ownBlock]⟩
end Go.Proofs.YtdapnemcdgjeeaaGreatDoor
