/- Walks: the function that All hands back. -/
import Derived.Test.YtiiaamkmnbegdaaTokW8
import Derived.Test.YtiiaamkmnbegdaaRange2
namespace Go.Proofs.Ytiiaamkmnbegdaa
open Go.RowKit
attribute [local go_sem] Oper.semAt_some

/-- what All's yield is handed -/
def encA (t : Tok.T) : Array Value := #[.agg #[.int .i64 (t.kind : Int), .int .i64 (t.at_ : Int), .string (bs t.text)]]
/-- what All yields -/
def allOf (l : List UInt8) : List Tok.T := if 2000 < l.length then [] else (Tok.toks l 0).1.map (·.1)
theorem allOf_long {l : List UInt8} (h : 2000 < l.length) : allOf l = [] := by rw [allOf, if_pos h]
theorem allOf_short {l : List UInt8} (h : ¬ 2000 < l.length) : allOf l = (Tok.toks l 0).1.map (·.1) := by rw [allOf, if_neg h]

theorem noop_any (b : Int) (w : World) : Calls Try.prog 17 #[.int .i64 b] w fun e w' => e = .returned (.tuple #[]) ∧ w' = w := by
  go_enter Try.func17, Try.ntmps17
  go_wp2
  go_end0
  exact ⟨rfl, rfl⟩

theorem all1_big (n l Bs : Nat) (s : ByteArray) (hs : 2000 < s.size) (W : World) (hB : Bs < W.heap.size) (hcs : W.cell? ⟨Bs, 0, none⟩ = some (.string s))
    (J Jx : List Tok.T → World → Prop) (hJ : OwnFrom W.heap.size J) (h0 : J [] W) (hs2 : s.size ≤ 4294967296) :
    CallsIn WF n Try.prog 15 #[.func (.yield l) #[] #[], .pointer (some ⟨Bs, 0, none⟩)] W fun e W' => (∃ v, e = .returned v) ∧ ((∃ ys, ys = allOf s.data.toList ∧ J ys W') ∨ (∃ pre, pre <+: allOf s.data.toList ∧ Jx pre W')) := by
  have hF : ∀ f, WF.fn f := fun _ => trivial
  have hl := allOf_long (l := s.data.toList) hs
  replace hl := Lib.hid hl
  refine callsIn_of_wp Try.func15 rfl trivial ?_ rfl
  simp only [Try.ntmps15, List.size_toArray, List.length_cons, List.length_nil, Nat.reduceAdd, Nat.reduceSub, Array.replicate_succ, Array.replicate_zero, List.push_toArray, List.append_toArray, List.nil_append, List.cons_append]
  gi_wp2
  refine bodyPost_ret (results_none rfl _ _ _) rfl ?_
  exact ⟨⟨_, rfl⟩, .inl ⟨_, hl.out.symm, hJ.alloc _ h0⟩⟩

set_option maxRecDepth 100000 in
set_option maxHeartbeats 2000000 in
theorem all1_small (n l Bs : Nat) (s : ByteArray) (hs : s.size ≤ 2000) (W : World) (hn1 : 1 ≤ n) (hn2 : 1 ≤ n - 1) (hn3 : 1 ≤ n - 1 - 1) (hn4 : 1 ≤ n - 1 - 1 - 1) (hB : Bs < W.heap.size) (hcs : W.cell? ⟨Bs, 0, none⟩ = some (.string s))
    (J Jx : List Tok.T → World → Prop) (hJ : OwnFrom W.heap.size J) (hJx : OwnFrom W.heap.size Jx)
    (hY : ∀ pre x W1, J pre W1 → pre.length < (allOf s.data.toList).length → pre ++ [x] <+: allOf s.data.toList → YieldAt WF (n - 1) Try.prog l (encA x) W1 fun e W' =>
      (e = .returned (.bool true) ∧ J (pre ++ [x]) W' ∧ Keeps (fun k => k = Bs) W1 W' ∧ High W.heap.size W1 W') ∨ (e = .returned (.bool false) ∧ Jx (pre ++ [x]) W' ∧ High W.heap.size W1 W'))
    (h0 : J [] W) :
    CallsIn WF n Try.prog 15 #[.func (.yield l) #[] #[], .pointer (some ⟨Bs, 0, none⟩)] W fun e W' => (∃ v, e = .returned v) ∧ ((∃ ys, ys = allOf s.data.toList ∧ J ys W') ∨ (∃ pre, pre <+: allOf s.data.toList ∧ Jx pre W')) := by
  have hF : ∀ f, WF.fn f := fun _ => trivial
  have hl := allOf_short (l := s.data.toList) (by simpa using hs)
  have hlen : (allOf s.data.toList).length = (Tok.toks s.data.toList 0).1.length := by rw [hl]; simp
  replace hl := Lib.hid hl
  replace hlen := Lib.hid hlen
  refine callsIn_of_wp_marks Try.func15 rfl trivial ?_ rfl
  simp only [Try.ntmps15, List.size_toArray, List.length_cons, List.length_nil, Nat.reduceAdd, Nat.reduceSub, Array.replicate_succ, Array.replicate_zero, List.push_toArray, List.append_toArray, List.nil_append, List.cons_append]
  gi_wp2_with (gi_at_call 16; refine (callsIn_wide.2 (tokens_any _ _ _ _ _)).mono ?_; rintro e w' ⟨rfl, rfl⟩)
  obtain ⟨W0, hW0⟩ : ∃ W0, W0 = ((W.alloc (.cells #[.func (.yield l) #[] #[]] 48)).alloc (.cells #[.string s] 9)).alloc (.cells #[.func (.func 17) #[] #[]] 52) := ⟨_, rfl⟩
  have bY : Boxed W0 W.heap.size 48 (.func (.yield l) #[] #[]) := by rw [hW0]; exact ((Boxed.new W _ _).alloc _).alloc _
  have bS : Boxed W0 (W.heap.size + 1) 9 (.string s) := by
    rw [hW0]; have := Boxed.new (W.alloc (.cells #[.func (.yield l) #[] #[]] 48)) 9 (.string s); rw [World.size_alloc] at this; exact this.alloc _
  have bW : Boxed W0 (W.heap.size + 1 + 1) 52 (.func (.func 17) #[] #[]) := by
    rw [hW0]; have := Boxed.new ((W.alloc (.cells #[.func (.yield l) #[] #[]] 48)).alloc (.cells #[.string s] 9)) 52 (.func (.func 17) #[] #[]); rw [World.size_alloc, World.size_alloc] at this; exact this
  have hz0 : W0.heap.size = W.heap.size + 3 := by rw [hW0]; simp
  have hj0 : J [] W0 := by rw [hW0]; exact hJ.alloc _ (hJ.alloc _ (hJ.alloc _ h0))
  rw [← hW0]
  clear hW0
  have hJ0 : OwnFrom W0.heap.size (fun (pre : List (Tok.T × Nat)) V => J (pre.map (·.1)) V) := fun s A B row hs hg hr => hJ _ A B row hs hg (fun r e => ⟨by have := (hr r e).1; omega, (hr r e).2⟩)
  have hJx0 : OwnFrom W0.heap.size (fun (pre : List (Tok.T × Nat)) V => Jx (pre.map (·.1)) V) := fun s A B row hs hg hr => hJx _ A B row hs hg (fun r e => ⟨by have := (hr r e).1; omega, (hr r e).2⟩)
  refine range_law (β := Nat) (gf := 30) (lb := #[.pointer (some ⟨W.heap.size + 1, 0, none⟩), .pointer (some ⟨W.heap.size + 1 + 1, 0, none⟩)]) rfl (enters_of Try.func30 (by kernel_rfl) rfl)
    (Kp := fun k => k = W.heap.size + 1 ∨ k = W.heap.size + 1 + 1) (by rintro k (rfl | rfl) <;> omega)
    (tokens_seq (n - 1) _ _ _ #[] s (by omega) W0 hn2 (by omega) (by omega) bS.cell bW.cell (enters_of Try.func17 (by kernel_rfl) rfl)) (fun _ => rfl)
    (fun pre V => J (pre.map (·.1)) V ∧ Boxed V W.heap.size 48 (.func (.yield l) #[] #[]) ∧ Boxed V (W.heap.size + 1) 9 (.string s) ∧ Boxed V (W.heap.size + 1 + 1) 52 (.func (.func 17) #[] #[]))
    (fun c pre V => c = .ret ∧ Jx (pre.map (·.1)) V)
    (fun _ pre V => J (pre.map (·.1)) V) ?hI ?hIx ?hIb ?h0
    (fun x a' V => ∃ Bx, W0.heap.size ≤ Bx ∧ V.heap[Bx]? = some (.cells #[.int .i64 (x.1.kind : Int), .int .i64 (x.1.at_ : Int), .string (bs x.1.text)] 32 (0, 0)) ∧ a' = { tmps := #[.func (.yield l) #[] #[], .pointer (some ⟨Bs, 0, none⟩), .pointer (some ⟨W.heap.size, 0, none⟩), undef, .pointer (some ⟨Bx, 0, none⟩), .string s, .int .i64 (s.size : Int), .bool (decide (2000 < (s.size : Int))), .string s, .func (.func 30) #[] #[.pointer (some ⟨W.heap.size + 1, 0, none⟩), .pointer (some ⟨W.heap.size + 1 + 1, 0, none⟩)], .int .i64 (x.2 : Int), .agg #[.int .i64 (x.1.kind : Int), .int .i64 (x.1.at_ : Int), .string (bs x.1.text)], undef, undef, undef, undef], defers := [] }) ?hAx ?assign ?body ?bad ?done ?wrong ?stop
  case hI =>
    exact OwnFrom.and hJ0 (OwnFrom.and (boxed_from _ _ (fun _ => .func (.yield l) #[] #[]) _) (OwnFrom.and (boxed_from _ _ (fun _ => .string s) _) (boxed_from _ _ (fun _ => .func (.func 17) #[] #[]) _)))
  case hIx => exact fun c s A B row hs hg hr => ⟨hs.1, hJx0 s A B row hs.2 hg hr⟩
  case hIb => exact fun _ => hJ0
  case h0 => exact ⟨hj0, bY, bS, bW⟩
  case hAx =>
    rintro x a' u A C row ⟨Bx, hBx, hx, he⟩ hg hr
    exact ⟨Bx, hBx, block_from (β := Unit) Bx 32 (fun _ => #[.int .i64 (x.1.kind : Int), .int .i64 (x.1.at_ : Int), .string (bs x.1.text)]) (0, 0) _ () A C row hx hg hr, he⟩
  case assign =>
    intro l2 pre x V K hi hK
    have hz : W.heap.size + 1 + 1 < V.heap.size := hi.2.2.2.lt
    simp only [pairV]
    gi_wp2
    obtain ⟨hj, hbY, hbS, hbW⟩ := hi
    exact hK _ _ ((KeepsOthers.alloc _ _).from _) (Keeps.alloc _ _ (by rintro k (rfl | rfl) <;> omega)) ⟨hJ0.alloc (s := pre) _ hj, hbY.alloc _, hbS.alloc _, hbW.alloc _⟩ ⟨V.heap.size, by omega, heap_new _ _, rfl⟩
  case body =>
    rintro l2 pre x a' V ⟨hj, hbY, hbS, hbW⟩ ⟨Bx, hBx, hx, rfl⟩ hlt hsp
    have c0 := cell_of_row V Bx 0 _ _ _ hx
    have c1 := cell_of_row V Bx 1 _ _ _ hx
    have c2 := cell_of_row V Bx 2 _ _ _ hx
    have cY := hbY.cell
    obtain ⟨yfn, ytmps, yassign, ybody, hy, hR⟩ := hY (pre.map (·.1)) x.1 V hj (by rw [List.length_map, hlen.out]; exact hlt) (by rw [hl.out]; have := hsp.map (·.1); rw [List.map_append] at this; exact this)
    simp only [encA] at hy
    gi_wp2
    refine (round_anyDepth hR).mono ?_
    rintro e2 w2 (⟨rfl, hj2, hk2, hh2⟩ | ⟨rfl, hjx, hh2⟩)
    · gi_wp2
      refine ⟨(hh2.mono (by omega)).keeps, ⟨hh2.size, fun k hk => hh2.same k (by rcases hk with rfl | rfl <;> omega) (by rcases hk with rfl | rfl; exact hbS.lt; exact hbW.lt)⟩, ?_, hh2.boxed (Nat.le_refl _) hbY, hh2.boxed (by omega) hbS, hh2.boxed (by omega) hbW⟩
      rw [List.map_append]; exact hj2
    · gi_wp2
      refine ⟨(hh2.mono (by omega)).keeps, rfl, ?_⟩
      rw [List.map_append]; exact hjx
  case bad =>
    rintro pre b V ⟨hj, hbY, hbS, hbW⟩
    refine (callsIn_wide.2 (noop_any b _)).mono ?_
    rintro e W' ⟨rfl, rfl⟩
    exact ⟨rfl, KeepsFrom.refl _ _, hj⟩
  case done =>
    rintro D ys V hD hS ⟨hj, hbY, hbS, hbW⟩ hK
    refine ⟨by simp, .inl ⟨_, _, rfl, run_takeDeferred hK, ?_⟩⟩
    exact ⟨_, results_none rfl _ _ _, ⟨_, rfl⟩, .inl ⟨_, by rw [hl.out, hS], hJ0.putObj (s := ys) _ hj (by omega) hK rfl⟩⟩
  case wrong =>
    rintro D b ys V hD hS hj hK
    refine ⟨by simp, .inl ⟨_, _, rfl, run_takeDeferred hK, ?_⟩⟩
    exact ⟨_, results_none rfl _ _ _, ⟨_, rfl⟩, .inl ⟨_, by rw [hl.out, hS], hJ0.putObj (s := ys) _ hj (by omega) hK rfl⟩⟩
  case stop =>
    rintro D c pre V hD hSp ⟨rfl, hjx⟩ hK
    gi_wp2
    refine ⟨by simp, .inl ⟨_, _, rfl, run_takeDeferred hK, ?_⟩⟩
    exact ⟨_, results_none rfl _ _ _, ⟨_, rfl⟩, .inr ⟨_, by rw [hl.out]; exact hSp.map _, hJx0.putObj (s := pre) _ hjx (by omega) hK rfl⟩⟩

theorem all1_seq (n Bs : Nat) (s : ByteArray) (hs : s.size ≤ 4294967296) (w : World) (hn1 : 1 ≤ n) (hn2 : 1 ≤ n - 1) (hn3 : 1 ≤ n - 1 - 1) (hn4 : 1 ≤ n - 1 - 1 - 1) (hB : Bs < w.heap.size) (hcs : w.cell? ⟨Bs, 0, none⟩ = some (.string s)) :
    SeqHigh n Try.prog 15 #[.pointer (some ⟨Bs, 0, none⟩)] encA (fun k => k = Bs) (fun ys => ys = allOf s.data.toList) (fun pre => pre <+: allOf s.data.toList) (allOf s.data.toList).length w := by
  intro l J Jx W hb hJ hJx hY h0
  have hB' : Bs < W.heap.size := Nat.lt_of_lt_of_le hB hb.size
  have hcs' : W.cell? ⟨Bs, 0, none⟩ = some (.string s) := (hb.cell (p := ⟨Bs, 0, none⟩) hB).trans hcs
  by_cases h : 2000 < s.size
  · exact all1_big n l Bs s h W hB' hcs' J Jx hJ h0 hs
  · exact all1_small n l Bs s (by omega) W hn1 hn2 hn3 hn4 hB' hcs' J Jx hJ hJx hY h0

theorem all_any (s : ByteArray) (w : World) :
    Calls Try.prog 7 #[.string s] w fun e w' => e = .returned (.func (.func 15) #[] #[.pointer (some ⟨w.heap.size, 0, none⟩)]) ∧ w' = w.alloc (.cells #[.string s] 9) := by
  go_enter Try.func7, Try.ntmps7
  go_wp2
  go_ret
  exact ⟨rfl, rfl⟩

end Go.Proofs.Ytiiaamkmnbegdaa
