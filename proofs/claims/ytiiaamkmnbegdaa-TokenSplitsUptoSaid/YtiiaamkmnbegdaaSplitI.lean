/- Walks: token.Split. -/
import Derived.Test.YtiiaamkmnbegdaaSplitW
import Derived.Laws.EntriesVeiled
namespace Go.Proofs.Ytiiaamkmnbegdaa
open Go.RowKit
attribute [local go_sem] Oper.semAt_some

theorem toList_bs (l : List UInt8) : (bs l).toList = l := by
  rw [ByteArray.toList, ByteArray.toList_loop_eq (bs l) (bs l).size 0 [] (by omega) (by omega)]
  simp [bs]

theorem row_mono {w : World} {b b' : Nat} {e : TypeId} {size : Nat} {v : Value} {n : Nat} {xs : List Value} (h : w.ownsRow b e size v n xs) (hb : b' ≤ b) : w.ownsRow b' e size v n xs := by
  refine ⟨h.1, ?_⟩
  rcases h.2 with h0 | ⟨g, cap, cur, h1, h2, h3⟩
  · exact .inl h0
  · exact .inr ⟨g, cap, cur, h1, Nat.le_trans hb h2, h3⟩

/-- a row grows: what is no cells lies as it lay -/
theorem others_of_row {W w1 : World} {b : Nat} {e : TypeId} {size : Nat} {v : Value} {n : Nat} {xs : List Value} (hr : W.ownsRow b e size v n xs) (hg : W.grownBy w1 v.ownBlock) : KeepsOthers W w1 :=
  KeepsOthers.of_grownBy hg fun j o ej hj => by
    rcases hr.2 with ⟨rfl, _⟩ | ⟨g, cap, cur, rfl, _, hgb, _⟩
    · simp [Value.ownBlock] at ej
    · obtain rfl : g = j := by simpa [Value.ownBlock] using ej
      rw [hgb] at hj; cases hj; rfl

set_option maxRecDepth 100000 in
set_option maxHeartbeats 2000000 in
theorem split_any (s : ByteArray) (w : World) (hs : s.size ≤ 1048576) :
    Calls Try.prog 8 #[.string s] w fun e w' => ∃ p c, e = .returned (.tuple #[.slice p (Tok.split s.data.toList).1.length c, .int .i64 ((Tok.split s.data.toList).2 : Int)]) ∧
      w'.ownsRow w.heap.size 9 1 (.slice p (Tok.split s.data.toList).1.length c) (Tok.split s.data.toList).1.length (strC (Tok.split s.data.toList).1) ∧ Below w.heap.size w w' := by
  refine (callsIn_wide (n := 77)).1 ?_
  obtain ⟨n, hn⟩ : ∃ n, n = 77 := ⟨_, rfl⟩
  rw [← hn]
  have h1 : 1 ≤ n := by omega
  have h2 : 1 ≤ n - 1 := by omega
  have h3 : 1 ≤ n - 1 - 1 := by omega
  have hF : ∀ f, WF.fn f := fun _ => trivial
  clear hn
  refine callsIn_of_wp_marks Try.func8 rfl trivial ?_ rfl
  simp only [Try.ntmps8, List.size_toArray, List.length_cons, List.length_nil, Nat.reduceAdd, Nat.reduceSub, Array.replicate_succ, Array.replicate_zero, List.push_toArray, List.append_toArray, List.nil_append, List.cons_append]
  have hmf : ∀ (fn : Fn) (first cap : Array Value) (w : World), (Instr.makeFunc fn first cap).run Try.prog w = .ok (.func fn first cap) w := fun _ _ _ _ => rfl
  gi_wp2_with (gi_at_call 16; refine (callsIn_wide.2 (tokens_any _ _ _ _ _)).mono ?_; rintro e w' ⟨rfl, rfl⟩)
  obtain ⟨W0, hW0⟩ : ∃ W0, W0 = ((((((((w.alloc (.cells #[.string s] 9)).alloc (.cells #[.bool false] 4)).alloc (.cells #[.slice none 0 0] 34)).alloc (.cells #[.int .i64 (-1)] 3)).alloc (.cells #[.int .i64 0] 3)).alloc (.cells #[.func (.func 18) #[] #[.pointer (some ⟨w.heap.size + 1 + 1 + 1, 0, none⟩), .pointer (some ⟨w.heap.size + 1 + 1, 0, none⟩), .pointer (some ⟨w.heap.size, 0, none⟩), .pointer (some ⟨w.heap.size + 1 + 1 + 1 + 1, 0, none⟩)]] 1)).alloc (.cells #[.string s] 9)).alloc (.cells #[.func (.func 19) #[] #[.pointer (some ⟨w.heap.size + 1, 0, none⟩)]] 52)) := ⟨_, rfl⟩
  have bQ : Boxed W0 (w.heap.size) 9 (.string s) := by rw [hW0]; have := Boxed.new w 9 (.string s); (try simp only [World.size_alloc] at this); exact (((((((this.alloc _).alloc _).alloc _).alloc _).alloc _).alloc _).alloc _)
  have bB : Boxed W0 (w.heap.size + 1) 4 (.bool false) := by rw [hW0]; have := Boxed.new (w.alloc (.cells #[.string s] 9)) 4 (.bool false); (try simp only [World.size_alloc] at this); exact ((((((this.alloc _).alloc _).alloc _).alloc _).alloc _).alloc _)
  have bO : Boxed W0 (w.heap.size + 1 + 1) 34 (.slice none 0 0) := by rw [hW0]; have := Boxed.new ((w.alloc (.cells #[.string s] 9)).alloc (.cells #[.bool false] 4)) 34 (.slice none 0 0); (try simp only [World.size_alloc] at this); exact (((((this.alloc _).alloc _).alloc _).alloc _).alloc _)
  have bF : Boxed W0 (w.heap.size + 1 + 1 + 1) 3 (.int .i64 (-1)) := by rw [hW0]; have := Boxed.new (((w.alloc (.cells #[.string s] 9)).alloc (.cells #[.bool false] 4)).alloc (.cells #[.slice none 0 0] 34)) 3 (.int .i64 (-1)); (try simp only [World.size_alloc] at this); exact ((((this.alloc _).alloc _).alloc _).alloc _)
  have bT : Boxed W0 (w.heap.size + 1 + 1 + 1 + 1) 3 (.int .i64 0) := by rw [hW0]; have := Boxed.new ((((w.alloc (.cells #[.string s] 9)).alloc (.cells #[.bool false] 4)).alloc (.cells #[.slice none 0 0] 34)).alloc (.cells #[.int .i64 (-1)] 3)) 3 (.int .i64 0); (try simp only [World.size_alloc] at this); exact (((this.alloc _).alloc _).alloc _)
  have bP : Boxed W0 (w.heap.size + 1 + 1 + 1 + 1 + 1) 1 (.func (.func 18) #[] #[.pointer (some ⟨w.heap.size + 1 + 1 + 1, 0, none⟩), .pointer (some ⟨w.heap.size + 1 + 1, 0, none⟩), .pointer (some ⟨w.heap.size, 0, none⟩), .pointer (some ⟨w.heap.size + 1 + 1 + 1 + 1, 0, none⟩)]) := by rw [hW0]; have := Boxed.new (((((w.alloc (.cells #[.string s] 9)).alloc (.cells #[.bool false] 4)).alloc (.cells #[.slice none 0 0] 34)).alloc (.cells #[.int .i64 (-1)] 3)).alloc (.cells #[.int .i64 0] 3)) 1 (.func (.func 18) #[] #[.pointer (some ⟨w.heap.size + 1 + 1 + 1, 0, none⟩), .pointer (some ⟨w.heap.size + 1 + 1, 0, none⟩), .pointer (some ⟨w.heap.size, 0, none⟩), .pointer (some ⟨w.heap.size + 1 + 1 + 1 + 1, 0, none⟩)]); (try simp only [World.size_alloc] at this); exact ((this.alloc _).alloc _)
  have bS : Boxed W0 (w.heap.size + 1 + 1 + 1 + 1 + 1 + 1) 9 (.string s) := by rw [hW0]; have := Boxed.new ((((((w.alloc (.cells #[.string s] 9)).alloc (.cells #[.bool false] 4)).alloc (.cells #[.slice none 0 0] 34)).alloc (.cells #[.int .i64 (-1)] 3)).alloc (.cells #[.int .i64 0] 3)).alloc (.cells #[.func (.func 18) #[] #[.pointer (some ⟨w.heap.size + 1 + 1 + 1, 0, none⟩), .pointer (some ⟨w.heap.size + 1 + 1, 0, none⟩), .pointer (some ⟨w.heap.size, 0, none⟩), .pointer (some ⟨w.heap.size + 1 + 1 + 1 + 1, 0, none⟩)]] 1)) 9 (.string s); (try simp only [World.size_alloc] at this); exact (this.alloc _)
  have bM : Boxed W0 (w.heap.size + 1 + 1 + 1 + 1 + 1 + 1 + 1) 52 (.func (.func 19) #[] #[.pointer (some ⟨w.heap.size + 1, 0, none⟩)]) := by rw [hW0]; have := Boxed.new (((((((w.alloc (.cells #[.string s] 9)).alloc (.cells #[.bool false] 4)).alloc (.cells #[.slice none 0 0] 34)).alloc (.cells #[.int .i64 (-1)] 3)).alloc (.cells #[.int .i64 0] 3)).alloc (.cells #[.func (.func 18) #[] #[.pointer (some ⟨w.heap.size + 1 + 1 + 1, 0, none⟩), .pointer (some ⟨w.heap.size + 1 + 1, 0, none⟩), .pointer (some ⟨w.heap.size, 0, none⟩), .pointer (some ⟨w.heap.size + 1 + 1 + 1 + 1, 0, none⟩)]] 1)).alloc (.cells #[.string s] 9)) 52 (.func (.func 19) #[] #[.pointer (some ⟨w.heap.size + 1, 0, none⟩)]); (try simp only [World.size_alloc] at this); exact this
  have hz0 : W0.heap.size = w.heap.size + 8 := by rw [hW0]; simp
  have hB0 : Below w.heap.size w W0 := by rw [hW0]; exact (((((((((Below.refl _ w).alloc (by simp; try omega) _).alloc (by simp; try omega) _).alloc (by simp; try omega) _).alloc (by simp; try omega) _).alloc (by simp; try omega) _).alloc (by simp; try omega) _).alloc (by simp; try omega) _).alloc (by simp; try omega) _)
  have hz1 : w.heap.size + 8 ≤ W0.heap.size := by omega
  have hz2 : W0.heap.size ≤ w.heap.size + 8 := by omega
  rw [← hW0]
  clear hW0 hz0
  refine range_law (β := Nat) (gf := 30) (lb := #[.pointer (some ⟨w.heap.size + 1 + 1 + 1 + 1 + 1 + 1, 0, none⟩), .pointer (some ⟨w.heap.size + 1 + 1 + 1 + 1 + 1 + 1 + 1, 0, none⟩)]) rfl (enters_of Try.func30 (by kernel_rfl) rfl)
    (Kp := fun k => k = w.heap.size + 1 + 1 + 1 + 1 + 1 + 1 ∨ k = w.heap.size + 1 + 1 + 1 + 1 + 1 + 1 + 1) (by rintro k (rfl | rfl) <;> omega)
    (tokens_seq (n - 1) _ _ _ #[.pointer (some ⟨w.heap.size + 1, 0, none⟩)] s (by omega) W0 h2 (by omega) (by omega) bS.cell bM.cell (enters_of Try.func19 (by kernel_rfl) rfl)) (fun _ => rfl)
    (fun pre V => Boxed V (w.heap.size) 9 (.string s) ∧ Boxed V (w.heap.size + 1) 4 (.bool false) ∧ (∃ v, Boxed V (w.heap.size + 1 + 1) 34 v ∧ V.ownsRow W0.heap.size 9 1 v (Tok.stOf s.data.toList pre).out.length (strC (Tok.stOf s.data.toList pre).out)) ∧ Boxed V (w.heap.size + 1 + 1 + 1) 3 (.int .i64 (Tok.stOf s.data.toList pre).from_) ∧ Boxed V (w.heap.size + 1 + 1 + 1 + 1) 3 (.int .i64 ((Tok.stOf s.data.toList pre).to_ : Int)) ∧ Boxed V (w.heap.size + 1 + 1 + 1 + 1 + 1) 1 (.func (.func 18) #[] #[.pointer (some ⟨w.heap.size + 1 + 1 + 1, 0, none⟩), .pointer (some ⟨w.heap.size + 1 + 1, 0, none⟩), .pointer (some ⟨w.heap.size, 0, none⟩), .pointer (some ⟨w.heap.size + 1 + 1 + 1 + 1, 0, none⟩)]) ∧ Boxed V (w.heap.size + 1 + 1 + 1 + 1 + 1 + 1) 9 (.string s) ∧ Boxed V (w.heap.size + 1 + 1 + 1 + 1 + 1 + 1 + 1) 52 (.func (.func 19) #[] #[.pointer (some ⟨w.heap.size + 1, 0, none⟩)]) ∧ Below w.heap.size w V)
    (fun _ _ _ => False)
    (fun _ _ V => Boxed V (w.heap.size + 1) 4 (.bool true) ∧ Below w.heap.size w V) ?hI ?hIx ?hIb ?h0
    (fun x a' V => ∃ Bx, W0.heap.size ≤ Bx ∧ V.heap[Bx]? = some (.cells #[.int .i64 (x.1.kind : Int), .int .i64 (x.1.at_ : Int), .string (bs x.1.text)] 32 (0, 0)) ∧ a' = { tmps := #[.string s, .pointer (some ⟨w.heap.size, 0, none⟩), .slice none 0 0, .int .i64 0, .pointer (some ⟨w.heap.size + 1, 0, none⟩), .pointer (some ⟨w.heap.size + 1 + 1, 0, none⟩), .pointer (some ⟨w.heap.size + 1 + 1 + 1, 0, none⟩), .pointer (some ⟨w.heap.size + 1 + 1 + 1 + 1, 0, none⟩), .pointer (some ⟨w.heap.size + 1 + 1 + 1 + 1 + 1, 0, none⟩), .int .i64 (x.2 : Int), .pointer (some ⟨Bx, 0, none⟩), .func (.func 18) #[] #[.pointer (some ⟨w.heap.size + 1 + 1 + 1, 0, none⟩), .pointer (some ⟨w.heap.size + 1 + 1, 0, none⟩), .pointer (some ⟨w.heap.size, 0, none⟩), .pointer (some ⟨w.heap.size + 1 + 1 + 1 + 1, 0, none⟩)], .string s, .func (.func 19) #[] #[.pointer (some ⟨w.heap.size + 1, 0, none⟩)], .func (.func 30) #[] #[.pointer (some ⟨w.heap.size + 1 + 1 + 1 + 1 + 1 + 1, 0, none⟩), .pointer (some ⟨w.heap.size + 1 + 1 + 1 + 1 + 1 + 1 + 1, 0, none⟩)], .int .i64 (x.2 : Int), .agg #[.int .i64 (x.1.kind : Int), .int .i64 (x.1.at_ : Int), .string (bs x.1.text)], undef, undef, undef, undef, undef, undef, undef, undef, undef, undef, undef, undef, undef, undef, undef, undef, undef, undef, undef], defers := [] }) ?hAx ?assign ?body ?bad ?done ?wrong ?stop
  case hI =>
    refine OwnFrom.and (boxed_from _ _ (fun _ => .string s) _) (OwnFrom.and (boxed_from _ _ (fun _ => .bool false) _) (OwnFrom.and (holds_row W0.heap.size (w.heap.size + 1 + 1) 34 9 1 (fun pre : List (Tok.T × Nat) => (Tok.stOf s.data.toList pre).out.length) (fun pre => strC (Tok.stOf s.data.toList pre).out) _)
      (OwnFrom.and (boxed_from _ _ (fun pre : List (Tok.T × Nat) => .int .i64 (Tok.stOf s.data.toList pre).from_) _) (OwnFrom.and (boxed_from _ _ (fun pre : List (Tok.T × Nat) => .int .i64 ((Tok.stOf s.data.toList pre).to_ : Int)) _) (OwnFrom.and (boxed_from _ _ (fun _ => .func (.func 18) #[] #[.pointer (some ⟨w.heap.size + 1 + 1 + 1, 0, none⟩), .pointer (some ⟨w.heap.size + 1 + 1, 0, none⟩), .pointer (some ⟨w.heap.size, 0, none⟩), .pointer (some ⟨w.heap.size + 1 + 1 + 1 + 1, 0, none⟩)]) _) (OwnFrom.and (boxed_from _ _ (fun _ => .string s) _) (OwnFrom.and (boxed_from _ _ (fun _ => .func (.func 19) #[] #[.pointer (some ⟨w.heap.size + 1, 0, none⟩)]) _) (ownFrom_below (Nat.le_refl _) (by omega)))))))))
  case hIx => exact fun _ _ _ _ _ h _ _ => h
  case hIb => exact fun _ => OwnFrom.and (boxed_from _ _ (fun _ => .bool true) _) (ownFrom_below (Nat.le_refl _) (by omega))
  case h0 => exact ⟨bQ, bB, ⟨_, bO, World.ownsRow_nil _ _ _ _⟩, bF, bT, bP, bS, bM, hB0⟩
  case hAx =>
    rintro x a' u A C row ⟨Bx, hBx, hx, he⟩ hg hr
    exact ⟨Bx, hBx, block_from (β := Unit) Bx 32 (fun _ => #[.int .i64 (x.1.kind : Int), .int .i64 (x.1.at_ : Int), .string (bs x.1.text)]) (0, 0) _ () A C row hx hg hr, he⟩
  case assign =>
    intro l2 pre x V K hi hK
    have hz : w.heap.size + 1 + 1 + 1 + 1 + 1 + 1 + 1 < V.heap.size := hi.2.2.2.2.2.2.2.1.lt
    simp only [pairV]
    gi_wp2
    obtain ⟨i0, i1, ⟨v, i2, hr⟩, i3, i4, i5, i6, i7, hB⟩ := hi
    exact hK _ _ ((KeepsOthers.alloc _ _).from _) (Keeps.alloc _ _ (by rintro k (rfl | rfl) <;> omega)) ⟨i0.alloc _, i1.alloc _, ⟨v, i2.alloc _, hr.alloc _⟩, i3.alloc _, i4.alloc _, i5.alloc _, i6.alloc _, i7.alloc _, hB.alloc hB.size _⟩ ⟨V.heap.size, by omega, heap_new _ _, rfl⟩
  case body =>
    rintro l2 pre x a' V ⟨i0, i1, ⟨v, i2, hr⟩, i3, i4, i5, i6, i7, hB⟩ ⟨Bx, hBx, hx, rfl⟩ hlt hsp
    have hpre : pre <+: (Tok.toks s.data.toList 0).1 := List.IsPrefix.trans (List.prefix_append _ _) hsp
    obtain ⟨f1, f2, f3⟩ := Tok.stOf_fits hpre
    have hol : (Tok.stOf s.data.toList pre).out.length ≤ s.size := by
      have h1 := Tok.stOf_out s.data.toList pre
      have h2 := hpre.length_le
      have h3 := Tok.toks_len s.data.toList 0
      have h4 : s.data.toList.length = s.size := rfl
      omega
    have hsn := Tok.stOf_snoc s.data.toList pre x
    obtain ⟨st, hst⟩ : ∃ st, Tok.stOf s.data.toList pre = st := ⟨_, rfl⟩
    rw [hst] at hr i3 i4 f1 f2 f3 hol hsn
    obtain ⟨p, c, rfl⟩ := ownsRow_shape hr
    obtain ⟨N, hN⟩ : ∃ N, st.out.length = N := ⟨_, rfl⟩
    rw [hN] at hr i2 hol
    have f2' : st.to_ ≤ s.size := f2
    have hz : W0.heap.size ≤ V.heap.size := by have := i7.lt; omega
    have c0 := cell_of_row V Bx 0 _ _ _ hx
    have c1 := cell_of_row V Bx 1 _ _ _ hx
    have c2 := cell_of_row V Bx 2 _ _ _ hx
    have c3 := i3.cell
    have c4 := i4.cell
    have c5 := i5.cell
    have k3 := i3.frozen
    have k4 := i4.frozen
    have gap : ∀ k, k < W0.heap.size → (Value.slice p N c).ownBlock = none ∨ (Value.slice p N c).ownBlock ≠ some k := fun k hk => .inr (fun e => by have := (hr.lt k e).1; omega)
    replace gap := Lib.hid gap
    clear hst hpre hx f2
    cases hse : Tok.semi x.1 with
    | true =>
      have hse' := of_decide_eq_true hse
      obtain ⟨hk6, htx⟩ := hse'
      have b1 : (((x.1.kind : Nat) : Int) == 6) = true := by simp; omega
      have b2 : ((bs x.1.text).toList == [59]) = true := by rw [htx, toList_bs]; rfl
      rw [Tok.step_semi hse] at hsn
      clear hk6 htx hse
      by_cases hf : 0 ≤ st.from_
      · rw [Tok.put_some hf] at hsn
        obtain ⟨f, hff⟩ := Int.eq_ofNat_of_zero_le hf
        have hle := f1 hf
        rw [hff] at i3 c3 hle hsn
        rw [Int.toNat_natCast] at hle hsn
        have hff' : (st.from_ : Int) = (f : Int) := hff
        replace hsn := Lib.hid hsn
        replace hN := Lib.hid hN
        clear hff hff' hf f1 f3
        gi_wp2_with (gi_at_call 18; refine (calls_round (puton_any W0.heap.size (w.heap.size + 1 + 1 + 1) (w.heap.size + 1 + 1) (w.heap.size) (w.heap.size + 1 + 1 + 1 + 1) s f st.to_ p N c _ _ hle f2' hs (by omega) i3 i2 i0 i4 hr (by omega) (by omega) (by omega) (by omega) hz (by omega))).mono ?_; rintro e V1 ⟨rfl, w1, g, c', hr1, hb1, hg1, rfl⟩)
        have up : ∀ (B : Nat) (t : TypeId) (u : Value), B < W0.heap.size → B ≠ w.heap.size + 1 + 1 → B ≠ w.heap.size + 1 + 1 + 1 → Boxed V B t u → Boxed ((w1.setCell ⟨w.heap.size + 1 + 1, 0, none⟩ (.slice (some ⟨g, 0, none⟩) (N + 1) c')).setCell ⟨w.heap.size + 1 + 1 + 1, 0, none⟩ (.int .i64 (-1))) B t u := fun B t u hB h2 h3 hx => Boxed.other (Boxed.other ((hb1.block B (by omega)).trans hx) h2 _) h3 _
        have far : ∀ k, k < W0.heap.size → (Value.slice (some ⟨g, 0, none⟩) (N + 1) c').ownBlock ≠ some k := fun k hk e => by have := (hr1.lt k e).1; omega
        refine ⟨((others_of_row hr hg1).trans ((KeepsOthers.setCell _ _ _).trans (KeepsOthers.setCell _ _ _))).from _, (Keeps.of_below hb1 (by rintro k (rfl | rfl) <;> omega)).trans ((Keeps.setCell _ _ _ (by simp <;> omega)).trans (Keeps.setCell _ _ _ (by simp <;> omega))), ?_⟩
        dsimp only
        rw [hsn.out]
        refine ⟨up _ _ _ (by omega) (by omega) (by omega) i0, up _ _ _ (by omega) (by omega) (by omega) i1, ⟨.slice (some ⟨g, 0, none⟩) (N + 1) c', ?_, ?_⟩, ?_, up _ _ _ (by omega) (by omega) (by omega) i4, up _ _ _ (by omega) (by omega) (by omega) i5, up _ _ _ (by omega) (by omega) (by omega) i6, up _ _ _ (by omega) (by omega) (by omega) i7, ?_⟩
        · exact Boxed.other ((show Boxed w1 _ _ _ from (hb1.block _ (by omega)).trans i2).set _) (by omega) _
        · rw [List.length_append, hN.out, strC_snoc, bs_cut]
          exact (hr1.kept (grownBy_setCell' _ _ _) (.inr (far _ (by omega)))).kept (grownBy_setCell' _ _ _) (.inr (far _ (by omega)))
        · exact (Boxed.other (show Boxed w1 _ _ _ from (hb1.block _ (by omega)).trans i3) (show w.heap.size + 1 + 1 + 1 ≠ w.heap.size + 1 + 1 by omega) _).set _
        · exact ((hB.trans (hb1.mono (by omega))).setCell (by simp <;> omega) _).setCell (by simp <;> omega) _
      · rw [Tok.put_none (by omega)] at hsn
        have hf' : st.from_ < 0 := by omega
        replace hsn := Lib.hid hsn
        replace hN := Lib.hid hN
        clear hf f1 f3
        gi_wp2_with (gi_at_call 18; refine (calls_round (putoff_any (w.heap.size + 1 + 1 + 1) (w.heap.size + 1 + 1) (w.heap.size) (w.heap.size + 1 + 1 + 1 + 1) st.from_ _ hf' i3)).mono ?_; rintro e V1 ⟨rfl, rfl⟩)
        refine ⟨(KeepsOthers.setCell _ _ _).from _, Keeps.setCell _ _ _ (by simp <;> omega), ?_⟩
        dsimp only
        rw [hsn.out]
        refine ⟨Boxed.other i0 (by omega) _, Boxed.other i1 (by omega) _, ⟨_, Boxed.other i2 (by omega) _, ?_⟩, i3.set _, Boxed.other i4 (by omega) _, Boxed.other i5 (by omega) _, Boxed.other i6 (by omega) _, Boxed.other i7 (by omega) _, hB.setCell (by simp <;> omega) _⟩
        rw [hN.out]
        exact hr.kept (grownBy_setCell' _ _ _) (gap.out _ (by omega))
    | false =>
      have hse' := of_decide_eq_false hse
      have hcase : (((x.1.kind : Nat) : Int) == 6) = false ∨ ((((x.1.kind : Nat) : Int) == 6) = true ∧ ((bs x.1.text).toList == [59]) = false) := by
        by_cases hk6 : x.1.kind = 6
        · refine .inr ⟨by simp; omega, ?_⟩
          rw [toList_bs]
          simp only [beq_eq_false_iff_ne]
          exact fun h => hse' ⟨hk6, h⟩
        · exact .inl (by simp <;> omega)
      clear hse'
      by_cases hf : 0 ≤ st.from_
      · rw [Tok.step_go hse hf] at hsn
        have hfB : decide (st.from_ < 0) = false := by simp; omega
        replace hsn := Lib.hid hsn
        replace hN := Lib.hid hN
        clear hse f1 f3
        rcases hcase with b1 | ⟨b1, b2⟩
        all_goals gi_wp2
        all_goals
          refine ⟨(KeepsOthers.setCell _ _ _).from _, Keeps.setCell _ _ _ (by simp <;> omega), ?_⟩
          dsimp only
          rw [hsn.out]
          refine ⟨Boxed.other i0 (by omega) _, Boxed.other i1 (by omega) _, ⟨_, Boxed.other i2 (by omega) _, ?_⟩, Boxed.other i3 (by omega) _, i4.set _, Boxed.other i5 (by omega) _, Boxed.other i6 (by omega) _, Boxed.other i7 (by omega) _, hB.setCell (by simp <;> omega) _⟩
          rw [hN.out]
          exact hr.kept (grownBy_setCell' _ _ _) (gap.out _ (by omega))
      · rw [Tok.step_new hse (by omega)] at hsn
        have hfB : decide (st.from_ < 0) = true := by simp; omega
        replace hsn := Lib.hid hsn
        replace hN := Lib.hid hN
        clear hse f1 f3
        rcases hcase with b1 | ⟨b1, b2⟩
        all_goals gi_wp2
        all_goals
          refine ⟨((KeepsOthers.setCell _ _ _).trans (KeepsOthers.setCell _ _ _)).from _, (Keeps.setCell _ _ _ (by simp <;> omega)).trans (Keeps.setCell _ _ _ (by simp <;> omega)), ?_⟩
          dsimp only
          rw [hsn.out]
          refine ⟨Boxed.other (Boxed.other i0 (by omega) _) (by omega) _, Boxed.other (Boxed.other i1 (by omega) _) (by omega) _, ⟨_, Boxed.other (Boxed.other i2 (by omega) _) (by omega) _, ?_⟩, Boxed.other (i3.set _) (by omega) _, (Boxed.other i4 (show w.heap.size + 1 + 1 + 1 + 1 ≠ w.heap.size + 1 + 1 + 1 by omega) _).set _, Boxed.other (Boxed.other i5 (by omega) _) (by omega) _, Boxed.other (Boxed.other i6 (by omega) _) (by omega) _, Boxed.other (Boxed.other i7 (by omega) _) (by omega) _, (hB.setCell (by simp <;> omega) _).setCell (by simp <;> omega) _⟩
          rw [hN.out]
          exact (hr.kept (grownBy_setCell' _ _ _) (gap.out _ (by omega))).kept (grownBy_setCell' _ _ _) (gap.out _ (by omega))
  case bad =>
    rintro pre b V ⟨i0, i1, i2, i3, i4, i5, i6, i7, hB⟩
    refine (callsIn_wide.2 (mark_any b _ _ _ i1.cell i1.frozen)).mono ?_
    rintro e W' ⟨rfl, rfl⟩
    exact ⟨rfl, (KeepsOthers.setCell _ _ _).from _, i1.set _, hB.setCell (by simp) _⟩
  case done =>
    rintro D ys V hD hS ⟨i0, i1, ⟨v, i2, hr⟩, i3, i4, i5, i6, i7, hB⟩ hK
    have hpre : ys <+: (Tok.toks s.data.toList 0).1 := by rw [hS]; exact List.prefix_refl _
    obtain ⟨f1, f2, f3⟩ := Tok.stOf_fits hpre
    have hol : (Tok.stOf s.data.toList ys).out.length ≤ s.size := by
      have h1 := Tok.stOf_out s.data.toList ys
      have h2 := hpre.length_le
      have h3 := Tok.toks_len s.data.toList 0
      have h4 : s.data.toList.length = s.size := rfl
      omega
    have hsn := Tok.split_ok hS
    obtain ⟨st, hst⟩ : ∃ st, Tok.stOf s.data.toList ys = st := ⟨_, rfl⟩
    rw [hst] at hr i3 i4 f1 f2 f3 hol hsn
    obtain ⟨p, c, rfl⟩ := ownsRow_shape hr
    obtain ⟨N, hN⟩ : ∃ N, st.out.length = N := ⟨_, rfl⟩
    rw [hN] at hr i2 hol
    have f2' : st.to_ ≤ s.size := f2
    have hz : W0.heap.size ≤ V.heap.size := by have := i7.lt; omega
    have hDV := (Array.getElem?_eq_some_iff.1 hK).1
    have c1 := i1.cell
    have c2 := i2.cell
    have c5 := i5.cell
    have gap : ∀ k, k < W0.heap.size → (Value.slice p N c).ownBlock = none ∨ (Value.slice p N c).ownBlock ≠ some k := fun k hk => .inr (fun e => by have := (hr.lt k e).1; omega)
    replace gap := Lib.hid gap
    clear hst hpre f2 hS
    by_cases hf : 0 ≤ st.from_
    · rw [Tok.put_some hf] at hsn
      obtain ⟨f, hff⟩ := Int.eq_ofNat_of_zero_le hf
      have hle := f1 hf
      rw [hff] at i3 hle hsn
      rw [Int.toNat_natCast] at hle hsn
      replace hsn := Lib.hid hsn
      replace hN := Lib.hid hN
      replace hKh := Lib.hid hK
      clear hff hf f1 f3 hK
      gi_wp2_with (gi_at_call 18; refine (callsIn_wide.2 (puton_any W0.heap.size (w.heap.size + 1 + 1 + 1) (w.heap.size + 1 + 1) (w.heap.size) (w.heap.size + 1 + 1 + 1 + 1) s f st.to_ p N c _ _ hle f2' hs (by omega) i3 i2 i0 i4 hr (by omega) (by omega) (by omega) (by omega) hz (by omega))).mono ?_; rintro e V1 ⟨rfl, w1, g, c', hr1, hb1, hg1, rfl⟩; have o2 := Boxed.other ((show Boxed w1 (w.heap.size + 1 + 1) 34 _ from (hb1.block _ (by omega)).trans i2).set (.slice (some ⟨g, 0, none⟩) (N + 1) c')) (show w.heap.size + 1 + 1 ≠ w.heap.size + 1 + 1 + 1 by omega) (.int .i64 (-1)); have o2c := o2.cell)
      have hg2 := ((others_of_row hr hg1).trans ((KeepsOthers.setCell w1 ⟨w.heap.size + 1 + 1, 0, none⟩ (.slice (some ⟨g, 0, none⟩) (N + 1) c')).trans (KeepsOthers.setCell _ ⟨w.heap.size + 1 + 1 + 1, 0, none⟩ (.int .i64 (-1))))).same D _ hKh.out rfl
      refine ⟨by simp, .inl ⟨_, _, rfl, run_takeDeferred hg2, ?_⟩⟩
      have far : ∀ k, k < W0.heap.size → (Value.slice (some ⟨g, 0, none⟩) (N + 1) c').ownBlock ≠ some k := fun k hk e => by have := (hr1.lt k e).1; omega
      refine ⟨_, results_tmp2 rfl _ _ _, some ⟨g, 0, none⟩, c', ?_, ?_, ?_⟩
      · rw [hsn.out]; simp [hN.out]
      · rw [hsn.out]
        simp only [List.length_append, List.length_cons, List.length_nil, hN.out, strC_snoc, bs_cut, Nat.zero_add]
        exact ownsRow_putObj (row_mono ((hr1.kept (grownBy_setCell' w1 (w.heap.size + 1 + 1) _) (.inr (far (w.heap.size + 1 + 1) (by omega)))).kept (grownBy_setCell' _ (w.heap.size + 1 + 1 + 1) _) (.inr (far (w.heap.size + 1 + 1 + 1) (by omega)))) (show w.heap.size ≤ W0.heap.size by omega)) _ hg2 rfl
      · exact (((hB.trans (hb1.mono (by omega))).setCell (by simp <;> omega) _).setCell (by simp <;> omega) _).trans (belowK_b (w := w) (Nat.le_refl _) _ D _ _ (by omega) hg2 rfl rfl)
    · rw [Tok.put_none (by omega)] at hsn
      have hf' : st.from_ < 0 := by omega
      replace hsn := Lib.hid hsn
      replace hN := Lib.hid hN
      replace hKh := Lib.hid hK
      clear hf f1 f3 hK
      gi_wp2_with (gi_at_call 18; refine (callsIn_wide.2 (putoff_any (w.heap.size + 1 + 1 + 1) (w.heap.size + 1 + 1) (w.heap.size) (w.heap.size + 1 + 1 + 1 + 1) st.from_ _ hf' i3)).mono ?_; rintro e V1 ⟨rfl, rfl⟩; have o2 := Boxed.other i2 (show w.heap.size + 1 + 1 ≠ w.heap.size + 1 + 1 + 1 by omega) (.int .i64 (-1)); have o2c := o2.cell)
      have hg2 := (KeepsOthers.setCell V ⟨w.heap.size + 1 + 1 + 1, 0, none⟩ (.int .i64 (-1))).same D _ hKh.out rfl
      refine ⟨by simp, .inl ⟨_, _, rfl, run_takeDeferred hg2, ?_⟩⟩
      refine ⟨_, results_tmp2 rfl _ _ _, p, c, ?_, ?_, ?_⟩
      · rw [hsn.out]; simp [hN.out]
      · rw [hsn.out]
        simp only [hN.out]
        exact ownsRow_putObj (row_mono (hr.kept (grownBy_setCell' V (w.heap.size + 1 + 1 + 1) _) (gap.out (w.heap.size + 1 + 1 + 1) (by omega))) (show w.heap.size ≤ W0.heap.size by omega)) _ hg2 rfl
      · exact (hB.setCell (by simp <;> omega) _).trans (belowK_b (w := w) (Nat.le_refl _) _ D _ _ (by omega) hg2 rfl rfl)
  case wrong =>
    rintro D b' ys V hD hS ⟨i1, hB⟩ hK
    have c1 := i1.cell
    gi_wp2
    refine ⟨by simp, .inl ⟨_, _, rfl, run_takeDeferred hK, ?_⟩⟩
    refine ⟨_, results_tmp2 rfl _ _ _, none, 0, ?_, ?_, ?_⟩
    · rw [Tok.split_bad hS]; rfl
    · rw [Tok.split_bad hS]; exact World.ownsRow_nil _ _ _ _
    · exact hB.trans (belowK_b (w := w) (Nat.le_refl _) V D _ _ (by omega) hK rfl rfl)
  case stop => rintro D cd pre V _ _ h _; exact h.elim


end Go.Proofs.Ytiiaamkmnbegdaa
