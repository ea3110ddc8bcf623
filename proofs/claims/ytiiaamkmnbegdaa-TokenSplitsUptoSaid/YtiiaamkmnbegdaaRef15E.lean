/- Walks: Tokens of the reference of layer 15. -/
import Derived.Test.YtiiaamkmnbegdaaRef15D
import Derived.Test.YtiiaamkmnbegdaaTokW8
namespace Go.Proofs.Ytiiaamkmnbegdaa
open Go.RowKit

theorem int_info : (Try.prog.info? 3).map (fun i => (i.zero, i.size, i.bytes)) = some (some (.int .i64 0), 1, 8) := by kernel_rfl
theorem one_i64 (n : Int) : ∀ u ∈ (#[Value.int .i64 n] : Array Value).toList, u.oneCell' = true := by intro u hu; simp at hu; subst hu; rfl
/-- the cells of numbers -/
def natsC (l : List Nat) : List Value := l.map fun (n : Nat) => .int .i64 (n : Int)
theorem natsC_snoc (l : List Nat) (n : Nat) : natsC (l ++ [n]) = natsC l ++ [.int .i64 (n : Int)] := by simp [natsC]
/-- the first wrong place, or -1 -/
def badV : Option Nat → Int
  | none => -1
  | some b => b

theorem rend_is {r : Int} {kd : Nat} (s : ByteArray) (k : Nat) (w : World) (h : Hid (Tok.fin (Tok.one s.data.toList k).2 = r ∧ (Tok.one s.data.toList k).1.kind = kd)) (hs : s.size ≤ 4294967296) (hk : k < s.size) :
    Calls Try.prog 13 #[.string s, .int .i64 (k : Int)] w fun e w' => e = .returned (.tuple #[.int .i64 r, .int .i64 (kd : Int)]) ∧ w = w' :=
  (rend_any s k w hs hk).mono fun _ _ ⟨h1, h2⟩ => ⟨by rw [h1, h.out.1, h.out.2], h2⟩
theorem rbytes_is {t : List UInt8} (s : ByteArray) (k : Nat) (w : World) (h : Hid (Tok.rtext k s.data.toList = t)) (hs : s.size ≤ 4294967296) (h3 : Hid (k = 3 → 2 ≤ s.size)) (h4 : Hid (k = 4 → 3 ≤ s.size)) (h5 : 1 ≤ s.size) :
    Calls Try.prog 14 #[.string s, .int .i64 (k : Int)] w fun e w' => e = .returned (.string (bs t)) ∧ Below w.heap.size w w' :=
  (rbytes_any s k w hs h3.out h4.out h5).mono fun _ _ ⟨h1, h2⟩ => ⟨by rw [h1, h.out], h2⟩

/-- what the reference's Tokens answers -/
def TokensP (s : ByteArray) (w : World) (e : Ending) (w' : World) : Prop :=
  ∃ v v2, e = .returned (.tuple #[v, v2, .int .i64 (badV (Tok.toks s.data.toList 0).2)]) ∧ w'.ownsRow w.heap.size 32 3 v (Tok.toks s.data.toList 0).1.length (tokC ((Tok.toks s.data.toList 0).1.map (·.1)))
    ∧ w'.ownsRow w.heap.size 3 1 v2 (Tok.toks s.data.toList 0).1.length (natsC ((Tok.toks s.data.toList 0).1.map (·.2))) ∧ Below w.heap.size w w'

theorem rows_apart' {w : World} {b1 b2 : Nat} {e1 e2 : TypeId} {s1 s2 n1 n2 : Nat} {v1 v2 : Value} {x1 x2 : List Value} (h1 : w.ownsRow b1 e1 s1 v1 n1 x1) (h2 : w.ownsRow b2 e2 s2 v2 n2 x2) (hne : e1 ≠ e2) : v1.ownBlock = none ∨ v1.ownBlock ≠ v2.ownBlock := rows_apart h1 h2 hne

set_option maxHeartbeats 1000000 in
theorem rtokens_any (s : ByteArray) (w : World) (hs : s.size ≤ 1099511627) : Calls Try.prog 6 #[.string s] w (TokensP s w) := by
  obtain ⟨Y, hY⟩ : ∃ Y, Tok.toks s.data.toList 0 = Y := ⟨_, rfl⟩
  obtain ⟨q0, hq0⟩ : ∃ q0, q0 = Tok.skip s.data.toList 0 := ⟨_, rfl⟩
  have hq0l : q0 ≤ s.size := by rw [hq0]; exact Tok.skip_le _ _ (by simp)
  have hYl : Y.1.length ≤ s.size := by rw [← hY]; exact Nat.le_trans (Tok.toks_len _ _) (by simp)
  replace hq0 := Lib.hid hq0
  replace hY := Lib.hid hY
  have hs2 : s.size ≤ 4294967296 := by omega
  go_enter Try.func6, Try.ntmps6
  go_wp2_with (go_at_call 12; refine (rskip_is s 0 _ hq0 hs2 (by omega)).mono ?_; rintro e w' ⟨rfl, rfl⟩)
  go_loopw [5, 6, 7] (fun vv vv2 i wr => ∃ (v v2 : Value) (pre : List (Tok.T × Nat)) (j q : Nat), v = vv ∧ v2 = vv2 ∧ i = .int .i64 (q : Int) ∧ q ≤ s.size ∧ pre.length ≤ q ∧ Hid (q = Tok.skip s.data.toList j) ∧ Hid (Y = (pre ++ (Tok.toks s.data.toList j).1, (Tok.toks s.data.toList j).2)) ∧
      wr.ownsRow w.heap.size 32 3 v pre.length (tokC (pre.map (·.1))) ∧ wr.ownsRow w.heap.size 3 1 v2 pre.length (natsC (pre.map (·.2))) ∧ Below w.heap.size w wr) (fun _ _ i _ => s.size - (intOf i).toNat)
  case atStart => exact ⟨_, _, [], 0, q0, rfl, rfl, rfl, hq0l, by simp, hq0, Lib.hid (by rw [← hY.out]; rfl), World.ownsRow_nil _ _ _ _, World.ownsRow_nil _ _ _ _, Below.refl _ _⟩
  case round =>
    obtain ⟨v, v2, pre, j, q, rfl, rfl, rfl, hql, hpl, hq, ht, hrow, hrow2, hb⟩ := hrel
    by_cases hlt : q < s.size
    · obtain ⟨⟨t, e, b⟩, hu⟩ : ∃ u, Tok.one s.data.toList q = u := ⟨_, rfl⟩
      have hlt' : Tok.skip s.data.toList j < s.data.toList.length := by rw [← hq.out]; exact hlt
      have hu' : Tok.one s.data.toList (Tok.skip s.data.toList j) = (t, e, b) := by rw [← hq.out]; exact hu
      cases b with
      | false =>
        have hw := Tok.toks_bad hlt' (by rw [hu'])
        have hYe := ht.out
        rw [hw, ← hq.out, List.append_nil] at hYe
        have he : Tok.fin (Tok.one s.data.toList q).2 = -1 ∧ (Tok.one s.data.toList q).1.kind = t.kind := by rw [hu]; exact ⟨rfl, rfl⟩
        clear hu' hlt' hw hu
        replace hYe := Lib.hid hYe
        replace he := Lib.hid he
        go_wp2_with (go_at_call 13; refine (rend_is s q _ he hs2 hlt).mono ?_; rintro e' w1 ⟨rfl, rfl⟩)
        go_ret3
        refine ⟨v, v2, ?_, ?_, ?_, hb⟩
        · rw [hY.out, hYe.out]; rfl
        · rw [hY.out, hYe.out]; exact hrow
        · rw [hY.out, hYe.out]; exact hrow2
      | true =>
        have hw := Tok.toks_step hlt' (by rw [hu'])
        rw [hu'] at hw
        have hen := Tok.one_end s.data.toList q hlt (by rw [hu])
        have hrt := Tok.one_rtext (l := s.data.toList) (i := q) hlt (by rw [hu])
        rw [hu] at hen hrt
        have hen1 : q < e := hen.1
        have hen2 : e ≤ s.size := hen.2
        have ht2 : Y = (pre ++ [(t, e)] ++ (Tok.toks s.data.toList e).1, (Tok.toks s.data.toList e).2) := by rw [ht.out, hw]; simp
        have he : Tok.fin (Tok.one s.data.toList q).2 = (e : Int) ∧ (Tok.one s.data.toList q).1.kind = t.kind := by rw [hu]; exact ⟨rfl, rfl⟩
        have hsz : (s.extract q e).size = e - q := by simp; omega
        have hct := cut_data1 s q e
        have hrt1 : Tok.rtext t.kind (s.extract q e).data.toList = t.text := by rw [hct]; exact hrt.1
        have hk3 : t.kind = 3 → 2 ≤ (s.extract q e).size := by rw [hsz]; exact hrt.2.1
        have hk4 : t.kind = 4 → 3 ≤ (s.extract q e).size := by rw [hsz]; exact hrt.2.2.1
        have hsx : (s.extract q e).size ≤ 4294967296 := by omega
        have hsx1 : 1 ≤ (s.extract q e).size := by omega
        have hat : t.at_ = q := hrt.2.2.2
        clear hu' hlt' hen hw hu hsz hct hrt
        replace ht2 := Lib.hid ht2
        replace he := Lib.hid he
        replace hrt1 := Lib.hid hrt1
        replace hk3 := Lib.hid hk3
        replace hk4 := Lib.hid hk4
        replace hat := Lib.hid hat
        obtain ⟨q2, hq2⟩ : ∃ q2, q2 = Tok.skip s.data.toList e := ⟨_, rfl⟩
        have hq2l : q2 ≤ s.size := by rw [hq2]; exact Tok.skip_le _ _ hen2
        have hq2g : e ≤ q2 := by rw [hq2]; exact Tok.skip_ge _ _
        replace hq2 := Lib.hid hq2
        go_wp2_with (first
          | (go_at_call 13; refine (rend_is s q _ he hs2 hlt).mono ?_; rintro e' w1 ⟨rfl, rfl⟩)
          | (go_at_call 14; refine (rbytes_is (s.extract q e) t.kind _ hrt1 hsx hk3 hk4 hsx1).mono ?_; rintro e' w1 ⟨rfl, hb1⟩; have hbw1 := hb.trans (hb1.mono hb.size); have hrow1 := hrow.kept (below_grown hb1) (Classical.em _); have hrow21 := hrow2.kept (below_grown hb1) (Classical.em _))
          | (go_at_call 12; refine (rskip_is s e _ hq2 hs2 hen2).mono ?_; rintro e w' ⟨rfl, rfl⟩)
          | (at_builtin; refine wpList_push rfl _ _ 23 rfl w.heap.size 32 Try.underlying23 tok_info rfl (by decide) _ _ _ rfl hrow1 _ rfl rfl (one_tok _ _ _) (by omega) (by decide) hbw1.size ?_; intro v' w2 hown' hb' hv' hg'; have hr2k := hrow21.kept hg' (rows_apart hrow21 hrow1 (by decide)); have hbw2 := hbw1.trans hb')
          | (at_builtin; refine wpList_push rfl _ _ 24 rfl w.heap.size 3 Try.underlying24 int_info rfl (by decide) _ _ _ rfl hr2k _ rfl rfl (one_i64 _) (by omega) (by decide) hbw2.size ?_; intro v2' w3 hown2' hb2' hv2' hg2'; have hr1k := hown'.kept hg2' (rows_apart hown' hr2k (by decide)); have hbw3 := hbw2.trans hb2'))
        go_roundw
        case rel =>
          refine ⟨_, _, pre ++ [(t, e)], e, q2, rfl, rfl, by go_num, hq2l, by simp; omega, hq2, ht2, ?_, ?_, hbw3⟩
          · rw [List.map_append, List.length_append]
            simp only [List.map_cons, List.map_nil, tokC_snoc, hat.out]
            simpa using hr1k
          · rw [List.map_append, List.length_append]
            simp only [List.map_cons, List.map_nil, natsC_snoc]
            simpa using hown2'
        case measure => simp [intOf]; omega
    · have hw := Tok.toks_end (l := s.data.toList) (i := j) (by rw [← hq.out]; exact Nat.le_of_not_lt hlt)
      have hYe := ht.out
      rw [hw, List.append_nil] at hYe
      clear hw
      replace hYe := Lib.hid hYe
      go_wp2
      go_ret3
      refine ⟨v, v2, ?_, ?_, ?_, hb⟩
      · rw [hY.out, hYe.out]; rfl
      · rw [hY.out, hYe.out]; exact hrow
      · rw [hY.out, hYe.out]; exact hrow2

end Go.Proofs.Ytiiaamkmnbegdaa
