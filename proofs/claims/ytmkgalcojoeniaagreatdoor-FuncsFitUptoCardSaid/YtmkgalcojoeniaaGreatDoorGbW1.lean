/- Walks: the sets of GLOB (package funcs). -/
import Derived.Test.YtmkgalcojoeniaaGreatDoorLk
import Derived.Test.YtmkgalcojoeniaaGreatDoorGlobT
import Derived.Maps.OwnOps
import Derived.Deep.RegionHeld3
import Derived.RegionTactic
set_option maxRecDepth 100000
set_option linter.unusedVariables false
set_option linter.unusedSimpArgs false
namespace Go.Proofs.YtmkgalcojoeniaaGreatDoor
open Go.RowKit

theorem keyU8 : Maps.Keyed Tryz.prog 5 := Maps.int_keyed Tryz.underlying5
theorem zeroInt (w : World) : (zeroValue 3).run Tryz.prog w = .ok (.int .i64 0) w := by kernel_rfl
theorem key_byte (b : UInt8) : keyOf Tryz.prog 5 (.int .u8 (b.toNat : Int)) = some (.int .u8 (b.toNat : Int)) := Maps.keyOf_int_mk Tryz.underlying5 (by have := b.toNat_lt; simp [Lit.wf, IntKind.min, IntKind.max, IntKind.signed, IntKind.bits]; omega)
/-- a map in block g of at most n entries that holds more than 0 for just the bytes that P holds of -/
def Counts (W : World) (g n : Nat) (P : UInt8 → Bool) : Prop := ∃ (D : DataW Unit) (C : UInt8 → Nat), W.ownsMap Tryz.prog 5 (plainElem Tryz.prog 3) g n D ∧ (∀ b : UInt8, D.atKey (.int .u8 (b.toNat : Int)) (.lit (.int .i64 0)) = .lit (.int .i64 (C b : Int))) ∧ (∀ b, C b ≤ n) ∧ ∀ b, (0 < C b ↔ P b = true)
theorem Counts.new (W : World) : Counts (W.alloc (.map #[] 0)) W.heap.size 0 (fun _ => false) :=
  ⟨_, fun _ => 0, World.ownsMap_made _ _ _ _, fun _ => rfl, fun _ => Nat.le_refl _, fun _ => by simp⟩
theorem Counts.lt {W : World} {g n : Nat} {P : UInt8 → Bool} (h : Counts W g n P) : g < W.heap.size := by obtain ⟨D, C, h, _⟩ := h; exact h.lt
theorem Counts.kept {W W' : World} {g n : Nat} {P : UInt8 → Bool} (h : Counts W g n P) (hb : W'.heap[g]? = W.heap[g]?) : Counts W' g n P := by
  obtain ⟨D, C, ⟨es, clock, h1, h2⟩, h3⟩ := h
  exact ⟨D, C, ⟨es, clock, hb.trans h1, h2⟩, h3⟩
theorem Counts.on {W W' : World} {g n : Nat} {P : UInt8 → Bool} (h : Counts W g n P) (hb : Below W.heap.size W W') : Counts W' g n P := h.kept (hb.block _ h.lt)
theorem Counts.of {W : World} {g n : Nat} {P Q : UInt8 → Bool} (h : Counts W g n P) (he : ∀ b, P b = Q b) : Counts W g n Q := by
  obtain ⟨D, C, h1, h2, h3, h4⟩ := h
  exact ⟨D, C, h1, h2, h3, fun b => by rw [← he b]; exact h4 b⟩
theorem Counts.mono {W : World} {g n n' : Nat} {P : UInt8 → Bool} (h : Counts W g n P) (hn : n ≤ n') : Counts W g n' P := by
  obtain ⟨D, C, h1, h2, h3, h4⟩ := h
  exact ⟨D, C, h1.mono hn, h2, fun b => Nat.le_trans (h3 b) hn, h4⟩
theorem Counts.look {W : World} {g n : Nat} {P : UInt8 → Bool} (h : Counts W g n P) (b : UInt8) : ∃ c : Nat, (∀ W', W'.heap[g]? = W.heap[g]? → (Instr.lookup 145 (.map (some g)) (.int .u8 (b.toNat : Int)) false).run Tryz.prog W' = .ok (.int .i64 (c : Int)) W') ∧ c ≤ n ∧ (0 < c ↔ P b = true) ∧
    ∀ W', W'.heap[g]? = W.heap[g]? → n < 4611686018427387904 → ∃ W2, (Instr.mapUpdate 145 (.map (some g)) (.int .u8 (b.toNat : Int)) (.int .i64 ((c : Int) + 1))).run Tryz.prog W' = .ok () W2 ∧ Counts W2 g (n + 1) (fun x => P x || x == b) ∧ W'.grownBy W2 (some g) := by
  obtain ⟨D, C, h1, h2, h3, h4⟩ := h
  refine ⟨C b, fun W' hW => ?_, h3 b, h4 b, fun W' hW hn => ?_⟩
  · have h1' : W'.ownsMap Tryz.prog 5 (plainElem Tryz.prog 3) g n D := by obtain ⟨es, clock, e1, e2⟩ := h1; exact ⟨es, clock, hW.trans e1, e2⟩
    obtain ⟨c, hrun, hat, _⟩ := h1'.lookup_int keyU8 Tryz.underlying145 Tryz.underlying3 (zeroInt W') (key_byte b)
    have : c = (C b : Int) := by have := hat.symm.trans (h2 b); injection this with e; injection e
    rw [← this]; exact hrun
  · have h1' : W'.ownsMap Tryz.prog 5 (plainElem Tryz.prog 3) g n D := by obtain ⟨es, clock, e1, e2⟩ := h1; exact ⟨es, clock, hW.trans e1, e2⟩
    have hcn := h3 b
    obtain ⟨W2, hrun, r1, r2⟩ := h1'.update keyU8 Tryz.underlying145 (by unfold maxLen; omega) (val := .int .i64 ((C b : Int) + 1)) (key_byte b) (plainElem_int (H := Unit) Tryz.underlying3 (by simp [Lit.wf, IntKind.min, IntKind.max, IntKind.signed, IntKind.bits]; omega))
    refine ⟨W2, hrun, ⟨_, fun x => if x = b then C b + 1 else C x, r1, fun x => ?_, fun x => ?_, fun x => ?_⟩, r2⟩ <;> dsimp only
    · by_cases e : x = b
      · subst e
        rw [Maps.atKey_put_same h1.isMap (show WideAt.IsKeyLit (.int .u8 _) from trivial), if_pos rfl]; rfl
      · rw [Maps.atKey_put_other (by intro h; apply e; injection h with _ h; exact UInt8.toNat_inj.1 (by omega)), if_neg e]; exact h2 x
    · split
      · omega
      · have := h3 x; omega
    · by_cases e : x = b
      · simp [e]
      · rw [if_neg e, h4 x]
        simp [e]

theorem set1_any (d : UInt8) (B0 B2 g n : Nat) (neg : Bool) (P : UInt8 → Bool) (W : World) (h0 : Boxed W B0 4 (.bool neg)) (h2 : Boxed W B2 145 (.map (some g))) (hC : Counts W g n P) (r : Bool) (hr : Hid ((P d != neg) = r)) :
    Calls Tryz.prog 149 #[.int .u8 (d.toNat : Int), .pointer (some ⟨B2, 0, none⟩), .pointer (some ⟨B0, 0, none⟩)] W fun e w' => e = .returned (.bool r) ∧ Below W.heap.size W w' := by
  have c0 := h0.cell
  have c2 := h2.cell
  obtain ⟨c, hl, _, hP, _⟩ := hC.look d
  have hlk := hl W rfl
  have hd : decide (0 < c) = P d := by
    rw [Bool.eq_iff_iff, decide_eq_true_iff, ← hP]
  obtain ⟨pd, hpd⟩ : ∃ pd, P d = pd := ⟨_, rfl⟩
  rw [hpd] at hd hr
  replace hd := Lib.hid hd
  clear hl hP hpd
  go_enter Tryz.func149, Tryz.ntmps149
  cases neg <;> (
    go_wp2
    go_ret
    exact ⟨ret_bool (by rw [hd.out, ← hr.out]; cases pd <;> rfl), Below.refl _ _⟩)

/-- what set's blocks hold -/
def SetM (w W : World) (neg : Bool) (n : Nat) (P : UInt8 → Bool) : Prop := Boxed W w.heap.size 4 (.bool neg) ∧ Counts W (w.heap.size + 1) n P ∧ Boxed W (w.heap.size + 1 + 1) 145 (.map (some (w.heap.size + 1))) ∧ Below w.heap.size w W
theorem SetM.of {w W : World} {neg : Bool} {n : Nat} {P Q : UInt8 → Bool} (h : SetM w W neg n P) (he : ∀ b, P b = Q b) : SetM w W neg n Q := ⟨h.1, h.2.1.of he, h.2.2.1, h.2.2.2⟩
theorem SetM.drew {w W : World} {neg : Bool} {n : Nat} {P : UInt8 → Bool} (h : SetM w W neg n P) : SetM w W.drew neg n P := ⟨h.1, h.2.1.kept rfl, h.2.2.1, h.2.2.2.drew⟩
theorem SetM.look {w W : World} {neg : Bool} {n : Nat} {P : UInt8 → Bool} (h : SetM w W neg n P) (hn : n < 4611686018427387904) (b : UInt8) : ∃ c : Nat, c < 4611686018427387904 ∧ (∀ W', SetM w W' neg n P → W'.heap[w.heap.size + 1]? = W.heap[w.heap.size + 1]? → (Instr.lookup 145 (.map (some (w.heap.size + 1))) (.int .u8 (b.toNat : Int)) false).run Tryz.prog W' = .ok (.int .i64 (c : Int)) W') ∧
    ∃ W2, (Instr.mapUpdate 145 (.map (some (w.heap.size + 1))) (.int .u8 (b.toNat : Int)) (.int .i64 ((c : Int) + 1))).run Tryz.prog W = .ok () W2 ∧ SetM w W2 neg (n + 1) (fun x => P x || x == b) := by
  obtain ⟨c, h1, h2, _, h4⟩ := h.2.1.look b
  obtain ⟨W2, hr, hC, hg⟩ := h4 W rfl hn
  refine ⟨c, by omega, fun W' _ hW => h1 W' hW, W2, hr, h.1.kept hg (by simp), hC, h.2.2.1.kept hg (by simp), ?_⟩
  exact h.2.2.2.grown hg h.2.2.2.size (fun k hk => by injection hk with e; omega)
theorem takes_set {W : World} {B0 B2 g n : Nat} {neg : Bool} {P : UInt8 → Bool} (h0 : Boxed W B0 4 (.bool neg)) (h2 : Boxed W B2 145 (.map (some g))) (hC : Counts W g n P) : Takes W (.func (.func 149) #[] #[.pointer (some ⟨B2, 0, none⟩), .pointer (some ⟨B0, 0, none⟩)]) (fun d => P d != neg) :=
  ⟨_, _, rfl, enters_of Tryz.func149 (by kernel_rfl) rfl, [B0, B2, g], fun b hb => by
    rcases List.mem_cons.1 hb with rfl | hb
    · exact ⟨_, h0, fun cs z h => by cases h⟩
    · rcases List.mem_cons.1 hb with rfl | hb
      · exact ⟨_, h2, fun cs z h => by cases h⟩
      · obtain rfl := List.mem_singleton.1 hb
        obtain ⟨D, C, ⟨es, clock, h1, _⟩, _⟩ := hC
        exact ⟨_, h1, fun cs z h => by cases h⟩, fun W' h d => set1_any d B0 B2 g n neg P W' ((h B0 (by simp)).trans h0) ((h B2 (by simp)).trans h2) (hC.kept (h g (by simp))) _ (Lib.hid rfl)⟩
theorem upto_byte {lo c : Nat} {x : UInt8} (hx : x.toNat = c) (hlo : lo ≤ c) (P : UInt8 → Bool) (b : UInt8) : ((P b || (decide (lo ≤ b.toNat) && decide (b.toNat < c))) || b == x) = (P b || (decide (lo ≤ b.toNat) && decide (b.toNat < c + 1))) := by
  by_cases e : b = x
  · subst e
    rw [hx]; simp [hlo]
  · have h1 : b.toNat ≠ c := fun h => e (UInt8.toNat_inj.1 (by omega))
    have h2 : (b == x) = false := by simpa using e
    have h3 : decide (b.toNat < c + 1) = decide (b.toNat < c) := by by_cases h : b.toNat < c <;> simp [h] <;> omega
    rw [h2, h3, Bool.or_false]

theorem upto_start (P : Bool) (lo : Nat) (b : UInt8) : P = (P || (decide (lo ≤ b.toNat) && decide (b.toNat < lo))) := by
  have : (decide (lo ≤ b.toNat) && decide (b.toNat < lo)) = false := by by_cases h : b.toNat < lo <;> simp [h] <;> omega
  rw [this, Bool.or_false]
/-- what set answers -/
def RetSet (p : ByteArray) (w : World) (e : Ending) (w' : World) : Prop := Below w.heap.size w w' ∧
  ((∃ f i fid lb, Fit.setOf (p.data.toList.drop 1) = some (f, p.data.toList.drop (i + 1)) ∧ 0 < i ∧ i + 1 ≤ p.size ∧ e = .returned (.tuple #[.func (.func fid) #[] lb, .int .i64 ((i : Int) + 1), .bool true]) ∧ Takes w' (.func (.func fid) #[] lb) f) ∨
   (Fit.setOf (p.data.toList.drop 1) = none ∧ ∃ fid lb n, e = .returned (.tuple #[.func (.func fid) #[] lb, .int .i64 n, .bool false])))

theorem SetM.start (w : World) (neg : Bool) : SetM w (((w.alloc (.cells #[.bool neg] 4)).alloc (.map #[] 0)).alloc (.cells #[.map (some (w.heap.size + 1))] 145)) neg 0 (fun b => ([] : List (UInt8 × UInt8)).any (Fit.inRange b)) := by
  refine ⟨((Boxed.new w _ _).alloc _).alloc _, ?_, ?_, (((Below.refl _ w).alloc (Nat.le_refl _) _).alloc (by simp) _).alloc (by simp; omega) _⟩
  · have h1 := Counts.new (w.alloc (.cells #[.bool neg] 4))
    have h2 := h1.on ((Below.refl _ _).alloc (Nat.le_refl _) (.cells #[.map (some (w.heap.size + 1))] 145))
    rw [World.size_alloc] at h2
    exact h2.of (fun b => by simp)
  · have := Boxed.new ((w.alloc (.cells #[.bool neg] 4)).alloc (.map #[] 0)) 145 (.map (some (w.heap.size + 1)))
    rw [World.size_alloc, World.size_alloc] at this
    exact this

set_option maxHeartbeats 16000000 in
theorem set_not (p : ByteArray) (w : World) (hp : p.size ≤ 1048576) (h0 : 0 < p.size) (h1 : 1 < p.size) (q : ((p[1].toNat : Int) == 94) = true) (hX0 : Hid (Fit.setOf (p.data.toList.drop 1) = (Fit.bodyL true (p.data.toList.drop 2)).map fun y => (Fit.setK true y.1, y.2))) :
    Calls Tryz.prog 112 #[.string p] w (RetSet p w) := by
  have hmm := @run_makeMap Tryz.prog
  have m1 : decide ((1 : Int) < (p.size : Int)) = true := by simp; omega
  have n0 : (0 : Int) ≤ 1 := by omega
  have n1 : (1 : Int) < (p.size : Int) := by omega
  go_enter Tryz.func112, Tryz.ntmps112
  go_wp2
  obtain ⟨X, hXX⟩ : ∃ X, Fit.setOf (p.data.toList.drop 1) = X := ⟨_, rfl⟩
  have hX1 : Hid (X = (Fit.bodyL true (p.data.toList.drop 2)).map fun y => (Fit.setK true ([] ++ y.1), y.2)) := Lib.hid (by rw [← hXX, hX0.out]; rfl)
  replace hXX := Lib.hid hXX
  clear hX0 hmm
  go_loopw [5, 8] (fun iv fv wr => ∃ (i : Nat) (first : Bool) (n : Nat) (rs : List (UInt8 × UInt8)), iv = .int .i64 (i : Int) ∧ fv = .bool first ∧ 0 < i ∧ i ≤ p.size ∧ Hid (X = (Fit.bodyL first (p.data.toList.drop i)).map fun y => (Fit.setK true (rs ++ y.1), y.2)) ∧ n ≤ 256 * i ∧ Hid (SetM w wr true n (fun b => rs.any (Fit.inRange b)))) (fun iv _ _ => p.size - (intOf iv).toNat)
  case atStart => exact ⟨2, true, 0, [], by go_num, rfl, by omega, by omega, hX1, by omega, Lib.hid (SetM.start w true)⟩
  case round =>
    obtain ⟨i, first, n, rs, rfl, rfl, hi0, hi, hX, hn, hS⟩ := hrel
    clear hX1
    by_cases hlt : i < p.size
    · have lB : decide ((i : Int) < (p.size : Int)) = true := by simp; omega
      have j0 : (0 : Int) ≤ (i : Int) := by omega
      have l0 : (i : Int) < (p.size : Int) := by omega
      have hY := hX.out
      clear hX
      rw [dropB1 p i hlt] at hY
      by_cases h93 : first = false ∧ p[i] = 93
      · obtain ⟨rfl, h93⟩ := h93
        have q0 := byte_t (k := 93) rfl h93
        have q0' : ((p[i].toNat : Int) != 93) = false := by rw [bne, q0]; rfl
        rw [h93, Fit.bodyL_end] at hY
        simp only [Option.map_some, List.append_nil] at hY
        rw [← hXX.out] at hY
        replace hY := Lib.hid hY
        clear h93 q0
        have hS := hS.out
        have c0 := hS.1.cell
        have c2 := hS.2.2.1.cell
        replace hS := Lib.hid hS
        go_wp2
        go_ret3
        have hS := hS.out
        exact ⟨hS.2.2.2, .inl ⟨_, i, _, _, hY.out, by omega, by omega, rfl, takes_set hS.1 hS.2.2.1 hS.2.1⟩⟩
      · have hq : first = true ∨ (first = false ∧ ((p[i].toNat : Int) != 93) = true) := by
          cases first with
          | true => exact .inl rfl
          | false => exact .inr ⟨rfl, by rw [bne, byte_f (k := 93) rfl (fun h => h93 ⟨rfl, h⟩)]; rfl⟩
        by_cases hr : ∃ h2 : i + 2 < p.size, p[i + 1] = 45 ∧ p[i + 2] ≠ 93
        · obtain ⟨h2, h45, hn93⟩ := hr
          rw [dropB1 p (i + 1) (by omega), dropB1 p (i + 1 + 1) h2, h45, Fit.bodyL_range _ h93 hn93] at hY
          have hY : X = (Fit.bodyL false (p.data.toList.drop (i + 3))).map fun y => (Fit.setK true ((rs ++ [(p[i], p[i + 2])]) ++ y.1), y.2) := by
            rw [hY, Option.map_map]; congr 1; funext y; simp [Function.comp]
          replace hY := Lib.hid hY
          have q1 := byte_t (k := 45) rfl h45
          have q2 : ((p[i + 2].toNat : Int) != 93) = true := by rw [bne, byte_f (k := 93) rfl hn93]; rfl
          clear h93 h45 hn93
          rcases hq with rfl | ⟨rfl, q0⟩
          · skip
            have hS0 := hS.out
            have m2 : decide ((i : Int) + 2 < (p.size : Int)) = true := by simp; omega
            have j1 : (0 : Int) ≤ (i : Int) + 1 := by omega
            have l1 : (i : Int) + 1 < (p.size : Int) := by omega
            have j2 : (0 : Int) ≤ (i : Int) + 2 := by omega
            have l2 : (i : Int) + 2 < (p.size : Int) := by omega
            have hlo8 := p[i].toNat_lt
            have hhi8 := p[i + 2].toNat_lt
            clear hS
            obtain ⟨wo, rfl⟩ : ∃ wo : World, wo = wr := ⟨_, rfl⟩
            go_wp2
            go_loopw [9] (fun cv wi => ∃ (c n2 : Nat), cv = .int .i64 (c : Int) ∧ p[i].toNat ≤ c ∧ (c ≤ p[i + 2].toNat + 1 ∨ c = p[i].toNat) ∧ n2 + p[i].toNat ≤ n + c ∧ Hid (SetM w wi true n2 (fun b => rs.any (Fit.inRange b) || (decide (p[i].toNat ≤ b.toNat) && decide (b.toNat < c))))) (fun cv _ => 256 - (intOf cv).toNat)
            case atStart => exact ⟨p[i].toNat, n, by go_num, Nat.le_refl _, .inr rfl, by omega, Lib.hid (hS0.of (fun b => upto_start _ _ b))⟩
            case round =>
              obtain ⟨c, n2, rfl, hc1, hc2, hn2, hSi⟩ := hrel
              clear hS0
              by_cases hch : c ≤ p[i + 2].toNat
              · have lB : decide ((c : Int) ≤ (p[i + 2].toNat : Int)) = true := by simp; omega
                obtain ⟨x, hx⟩ : ∃ x : UInt8, x.toNat = c := ⟨UInt8.ofNat c, by simp; omega⟩
                obtain ⟨cc, hcc, hlk, W2, hup, hS2⟩ := hSi.out.look (by omega) x
                have hlk := hlk _ hSi.out rfl
                have c2 := hSi.out.2.2.1.cell
                have hS3 := hS2.of (fun b => upto_byte hx hc1 (fun b => rs.any (Fit.inRange b)) b)
                rw [hx] at hlk hup
                have hw8 : IntKind.u8.wrap (c : Int) = (c : Int) := by simp [IntKind.wrap, IntKind.bits, IntKind.signed]; omega
                have hwr : IntKind.i64.wrap ((cc : Int) + 1) = (cc : Int) + 1 := by rw [IntKind.wrap_i64]; omega
                replace hS3 := Lib.hid hS3
                clear hS2 hSi hx
                go_wp2
                go_roundw
                case rel => exact ⟨c + 1, n2 + 1, by go_num, by omega, .inl (by omega), by omega, hS3⟩
                case measure => simp [intOf]; omega
              · have lB : decide ((c : Int) ≤ (p[i + 2].toNat : Int)) = false := by simp; omega
                have hSf : SetM w wr true (n + 256) (fun b => (rs ++ [(p[i], p[i + 2])]).any (Fit.inRange b)) := by
                  have h1 := hSi.out.of (Q := fun b => (rs ++ [(p[i], p[i + 2])]).any (Fit.inRange b)) (fun b => by
                    rw [List.any_append]
                    congr 1
                    simp only [List.any_cons, List.any_nil, Bool.or_false, Fit.inRange]
                    rcases hc2 with hc2 | hc2
                    · have : c = p[i + 2].toNat + 1 := by omega
                      rw [this]
                      congr 1
                      rw [Bool.eq_iff_iff, decide_eq_true_iff, decide_eq_true_iff]; omega
                    · rw [Bool.eq_iff_iff]; simp only [Bool.and_eq_true, decide_eq_true_iff]; omega)
                  exact ⟨h1.1, h1.2.1.mono (by omega), h1.2.2⟩
                replace hSf := Lib.hid hSf
                clear hSi
                go_wp2
                go_roundw
                case rel => exact ⟨i + 3, false, n + 256, rs ++ [(p[i], p[i + 2])], by go_num, rfl, by omega, by omega, hY, by omega, hSf⟩
                case measure => simp [intOf]; omega
          · skip
            have hS0 := hS.out
            have m2 : decide ((i : Int) + 2 < (p.size : Int)) = true := by simp; omega
            have j1 : (0 : Int) ≤ (i : Int) + 1 := by omega
            have l1 : (i : Int) + 1 < (p.size : Int) := by omega
            have j2 : (0 : Int) ≤ (i : Int) + 2 := by omega
            have l2 : (i : Int) + 2 < (p.size : Int) := by omega
            have hlo8 := p[i].toNat_lt
            have hhi8 := p[i + 2].toNat_lt
            clear hS
            obtain ⟨wo, rfl⟩ : ∃ wo : World, wo = wr := ⟨_, rfl⟩
            go_wp2
            go_loopw [9] (fun cv wi => ∃ (c n2 : Nat), cv = .int .i64 (c : Int) ∧ p[i].toNat ≤ c ∧ (c ≤ p[i + 2].toNat + 1 ∨ c = p[i].toNat) ∧ n2 + p[i].toNat ≤ n + c ∧ Hid (SetM w wi true n2 (fun b => rs.any (Fit.inRange b) || (decide (p[i].toNat ≤ b.toNat) && decide (b.toNat < c))))) (fun cv _ => 256 - (intOf cv).toNat)
            case atStart => exact ⟨p[i].toNat, n, by go_num, Nat.le_refl _, .inr rfl, by omega, Lib.hid (hS0.of (fun b => upto_start _ _ b))⟩
            case round =>
              obtain ⟨c, n2, rfl, hc1, hc2, hn2, hSi⟩ := hrel
              clear hS0
              by_cases hch : c ≤ p[i + 2].toNat
              · have lB : decide ((c : Int) ≤ (p[i + 2].toNat : Int)) = true := by simp; omega
                obtain ⟨x, hx⟩ : ∃ x : UInt8, x.toNat = c := ⟨UInt8.ofNat c, by simp; omega⟩
                obtain ⟨cc, hcc, hlk, W2, hup, hS2⟩ := hSi.out.look (by omega) x
                have hlk := hlk _ hSi.out rfl
                have c2 := hSi.out.2.2.1.cell
                have hS3 := hS2.of (fun b => upto_byte hx hc1 (fun b => rs.any (Fit.inRange b)) b)
                rw [hx] at hlk hup
                have hw8 : IntKind.u8.wrap (c : Int) = (c : Int) := by simp [IntKind.wrap, IntKind.bits, IntKind.signed]; omega
                have hwr : IntKind.i64.wrap ((cc : Int) + 1) = (cc : Int) + 1 := by rw [IntKind.wrap_i64]; omega
                replace hS3 := Lib.hid hS3
                clear hS2 hSi hx
                go_wp2
                go_roundw
                case rel => exact ⟨c + 1, n2 + 1, by go_num, by omega, .inl (by omega), by omega, hS3⟩
                case measure => simp [intOf]; omega
              · have lB : decide ((c : Int) ≤ (p[i + 2].toNat : Int)) = false := by simp; omega
                have hSf : SetM w wr true (n + 256) (fun b => (rs ++ [(p[i], p[i + 2])]).any (Fit.inRange b)) := by
                  have h1 := hSi.out.of (Q := fun b => (rs ++ [(p[i], p[i + 2])]).any (Fit.inRange b)) (fun b => by
                    rw [List.any_append]
                    congr 1
                    simp only [List.any_cons, List.any_nil, Bool.or_false, Fit.inRange]
                    rcases hc2 with hc2 | hc2
                    · have : c = p[i + 2].toNat + 1 := by omega
                      rw [this]
                      congr 1
                      rw [Bool.eq_iff_iff, decide_eq_true_iff, decide_eq_true_iff]; omega
                    · rw [Bool.eq_iff_iff]; simp only [Bool.and_eq_true, decide_eq_true_iff]; omega)
                  exact ⟨h1.1, h1.2.1.mono (by omega), h1.2.2⟩
                replace hSf := Lib.hid hSf
                clear hSi
                go_wp2
                go_roundw
                case rel => exact ⟨i + 3, false, n + 256, rs ++ [(p[i], p[i + 2])], by go_num, rfl, by omega, by omega, hY, by omega, hSf⟩
                case measure => simp [intOf]; omega
        · have hr2 : ∀ h2 : i + 2 < p.size, ¬ (p[i + 1] = 45 ∧ p[i + 2] ≠ 93) := fun h2 h => hr ⟨h2, h⟩
          rw [Fit.bodyL_one _ h93 (no_range p i hr2)] at hY
          have hY : X = (Fit.bodyL false (p.data.toList.drop (i + 1))).map fun y => (Fit.setK true ((rs ++ [(p[i], p[i])]) ++ y.1), y.2) := by
            rw [hY, Option.map_map]; congr 1; funext y; simp [Function.comp]
          replace hY := Lib.hid hY
          have hway : (decide ((i : Int) + 2 < (p.size : Int)) = false ∧ ¬ i + 2 < p.size) ∨ ∃ h2 : i + 2 < p.size, ((p[i + 1].toNat : Int) == 45) = false ∨ (((p[i + 1].toNat : Int) == 45) = true ∧ ((p[i + 2].toNat : Int) != 93) = false) := by
            by_cases h2 : i + 2 < p.size
            · refine .inr ⟨h2, ?_⟩
              by_cases h45 : p[i + 1] = 45
              · refine .inr ⟨byte_t rfl h45, ?_⟩
                have : p[i + 2] = 93 := Classical.byContradiction fun h => hr2 h2 ⟨h45, h⟩
                rw [bne, byte_t (k := 93) rfl this]; rfl
              · exact .inl (byte_f rfl h45)
            · exact .inl ⟨by simp; omega, h2⟩
          clear h93 hr hr2
          rcases hq with rfl | ⟨rfl, q0⟩ <;> rcases hway with ⟨m2, hm2⟩ | ⟨h2, hway⟩
          · skip
            have hSd := hS.out.drew
            obtain ⟨cc, hcc, hlk, W2, hup, hS2⟩ := hSd.look (by omega) p[i]
            have hlk := hlk _ hSd rfl
            have c2 := hSd.2.2.1.cell
            have hwr : IntKind.i64.wrap ((cc : Int) + 1) = (cc : Int) + 1 := by rw [IntKind.wrap_i64]; omega
            have hS3 : SetM w W2 true (n + 1) (fun b => (rs ++ [(p[i], p[i])]).any (Fit.inRange b)) := hS2.of (fun b => by rw [List.any_append]; congr 1; simp only [List.any_cons, List.any_nil, Bool.or_false]; rw [Fit.inRange_one, Bool.eq_iff_iff, beq_iff_eq, beq_iff_eq]; exact eq_comm)
            replace hS3 := Lib.hid hS3
            clear hS hSd hS2
            go_wp2
            go_region
            all_goals (
              go_wp2
              go_roundw
              case rel => exact ⟨i + 1, false, n + 1, rs ++ [(p[i], p[i])], by go_num, rfl, by omega, by omega, hY, by omega, hS3⟩
              case measure => simp [intOf]; omega)
          · have m2 : decide ((i : Int) + 2 < (p.size : Int)) = true := by simp; omega
            have j1 : (0 : Int) ≤ (i : Int) + 1 := by omega
            have l1 : (i : Int) + 1 < (p.size : Int) := by omega
            have j2 : (0 : Int) ≤ (i : Int) + 2 := by omega
            have l2 : (i : Int) + 2 < (p.size : Int) := by omega
            rcases hway with q1 | ⟨q1, q2⟩
            · skip
              have hSd := hS.out.drew
              obtain ⟨cc, hcc, hlk, W2, hup, hS2⟩ := hSd.look (by omega) p[i]
              have hlk := hlk _ hSd rfl
              have c2 := hSd.2.2.1.cell
              have hwr : IntKind.i64.wrap ((cc : Int) + 1) = (cc : Int) + 1 := by rw [IntKind.wrap_i64]; omega
              have hS3 : SetM w W2 true (n + 1) (fun b => (rs ++ [(p[i], p[i])]).any (Fit.inRange b)) := hS2.of (fun b => by rw [List.any_append]; congr 1; simp only [List.any_cons, List.any_nil, Bool.or_false]; rw [Fit.inRange_one, Bool.eq_iff_iff, beq_iff_eq, beq_iff_eq]; exact eq_comm)
              replace hS3 := Lib.hid hS3
              clear hS hSd hS2
              go_wp2
              go_region
              all_goals (
                go_wp2
                go_roundw
                case rel => exact ⟨i + 1, false, n + 1, rs ++ [(p[i], p[i])], by go_num, rfl, by omega, by omega, hY, by omega, hS3⟩
                case measure => simp [intOf]; omega)
            · skip
              have hSd := hS.out.drew
              obtain ⟨cc, hcc, hlk, W2, hup, hS2⟩ := hSd.look (by omega) p[i]
              have hlk := hlk _ hSd rfl
              have c2 := hSd.2.2.1.cell
              have hwr : IntKind.i64.wrap ((cc : Int) + 1) = (cc : Int) + 1 := by rw [IntKind.wrap_i64]; omega
              have hS3 : SetM w W2 true (n + 1) (fun b => (rs ++ [(p[i], p[i])]).any (Fit.inRange b)) := hS2.of (fun b => by rw [List.any_append]; congr 1; simp only [List.any_cons, List.any_nil, Bool.or_false]; rw [Fit.inRange_one, Bool.eq_iff_iff, beq_iff_eq, beq_iff_eq]; exact eq_comm)
              replace hS3 := Lib.hid hS3
              clear hS hSd hS2
              go_wp2
              go_region
              all_goals (
                go_wp2
                go_roundw
                case rel => exact ⟨i + 1, false, n + 1, rs ++ [(p[i], p[i])], by go_num, rfl, by omega, by omega, hY, by omega, hS3⟩
                case measure => simp [intOf]; omega)
          · skip
            have hSd := hS.out.drew
            obtain ⟨cc, hcc, hlk, W2, hup, hS2⟩ := hSd.look (by omega) p[i]
            have hlk := hlk _ hSd rfl
            have c2 := hSd.2.2.1.cell
            have hwr : IntKind.i64.wrap ((cc : Int) + 1) = (cc : Int) + 1 := by rw [IntKind.wrap_i64]; omega
            have hS3 : SetM w W2 true (n + 1) (fun b => (rs ++ [(p[i], p[i])]).any (Fit.inRange b)) := hS2.of (fun b => by rw [List.any_append]; congr 1; simp only [List.any_cons, List.any_nil, Bool.or_false]; rw [Fit.inRange_one, Bool.eq_iff_iff, beq_iff_eq, beq_iff_eq]; exact eq_comm)
            replace hS3 := Lib.hid hS3
            clear hS hSd hS2
            go_wp2
            go_region
            all_goals (
              go_wp2
              go_roundw
              case rel => exact ⟨i + 1, false, n + 1, rs ++ [(p[i], p[i])], by go_num, rfl, by omega, by omega, hY, by omega, hS3⟩
              case measure => simp [intOf]; omega)
          · have m2 : decide ((i : Int) + 2 < (p.size : Int)) = true := by simp; omega
            have j1 : (0 : Int) ≤ (i : Int) + 1 := by omega
            have l1 : (i : Int) + 1 < (p.size : Int) := by omega
            have j2 : (0 : Int) ≤ (i : Int) + 2 := by omega
            have l2 : (i : Int) + 2 < (p.size : Int) := by omega
            rcases hway with q1 | ⟨q1, q2⟩
            · skip
              have hSd := hS.out.drew
              obtain ⟨cc, hcc, hlk, W2, hup, hS2⟩ := hSd.look (by omega) p[i]
              have hlk := hlk _ hSd rfl
              have c2 := hSd.2.2.1.cell
              have hwr : IntKind.i64.wrap ((cc : Int) + 1) = (cc : Int) + 1 := by rw [IntKind.wrap_i64]; omega
              have hS3 : SetM w W2 true (n + 1) (fun b => (rs ++ [(p[i], p[i])]).any (Fit.inRange b)) := hS2.of (fun b => by rw [List.any_append]; congr 1; simp only [List.any_cons, List.any_nil, Bool.or_false]; rw [Fit.inRange_one, Bool.eq_iff_iff, beq_iff_eq, beq_iff_eq]; exact eq_comm)
              replace hS3 := Lib.hid hS3
              clear hS hSd hS2
              go_wp2
              go_region
              all_goals (
                go_wp2
                go_roundw
                case rel => exact ⟨i + 1, false, n + 1, rs ++ [(p[i], p[i])], by go_num, rfl, by omega, by omega, hY, by omega, hS3⟩
                case measure => simp [intOf]; omega)
            · skip
              have hSd := hS.out.drew
              obtain ⟨cc, hcc, hlk, W2, hup, hS2⟩ := hSd.look (by omega) p[i]
              have hlk := hlk _ hSd rfl
              have c2 := hSd.2.2.1.cell
              have hwr : IntKind.i64.wrap ((cc : Int) + 1) = (cc : Int) + 1 := by rw [IntKind.wrap_i64]; omega
              have hS3 : SetM w W2 true (n + 1) (fun b => (rs ++ [(p[i], p[i])]).any (Fit.inRange b)) := hS2.of (fun b => by rw [List.any_append]; congr 1; simp only [List.any_cons, List.any_nil, Bool.or_false]; rw [Fit.inRange_one, Bool.eq_iff_iff, beq_iff_eq, beq_iff_eq]; exact eq_comm)
              replace hS3 := Lib.hid hS3
              clear hS hSd hS2
              go_wp2
              go_region
              all_goals (
                go_wp2
                go_roundw
                case rel => exact ⟨i + 1, false, n + 1, rs ++ [(p[i], p[i])], by go_num, rfl, by omega, by omega, hY, by omega, hS3⟩
                case measure => simp [intOf]; omega)
    · have hY := hX.out
      clear hX
      rw [dropB0 p i (by omega), Fit.bodyL_nil] at hY
      simp only [Option.map_none] at hY
      rw [← hXX.out] at hY
      replace hY := Lib.hid hY
      have lB : decide ((i : Int) < (p.size : Int)) = false := by simp; omega
      have hS := hS.out
      have c0 := hS.1.cell
      have c2 := hS.2.2.1.cell
      replace hS := Lib.hid hS
      go_wp2
      go_ret3
      have hS := hS.out
      exact ⟨hS.2.2.2, .inr ⟨hY.out, _, _, _, rfl⟩⟩

set_option maxHeartbeats 16000000 in
theorem set_plain (p : ByteArray) (w : World) (hp : p.size ≤ 1048576) (h0 : 0 < p.size) (h1 : 1 < p.size) (q : ((p[1].toNat : Int) == 94) = false) (hX0 : Hid (Fit.setOf (p.data.toList.drop 1) = (Fit.bodyL true (p.data.toList.drop 1)).map fun y => (Fit.setK false y.1, y.2))) :
    Calls Tryz.prog 112 #[.string p] w (RetSet p w) := by
  have hmm := @run_makeMap Tryz.prog
  have m1 : decide ((1 : Int) < (p.size : Int)) = true := by simp; omega
  have n0 : (0 : Int) ≤ 1 := by omega
  have n1 : (1 : Int) < (p.size : Int) := by omega
  go_enter Tryz.func112, Tryz.ntmps112
  go_wp2
  obtain ⟨X, hXX⟩ : ∃ X, Fit.setOf (p.data.toList.drop 1) = X := ⟨_, rfl⟩
  have hX1 : Hid (X = (Fit.bodyL true (p.data.toList.drop 1)).map fun y => (Fit.setK false ([] ++ y.1), y.2)) := Lib.hid (by rw [← hXX, hX0.out]; rfl)
  replace hXX := Lib.hid hXX
  clear hX0 hmm
  go_loopw [5, 8] (fun iv fv wr => ∃ (i : Nat) (first : Bool) (n : Nat) (rs : List (UInt8 × UInt8)), iv = .int .i64 (i : Int) ∧ fv = .bool first ∧ 0 < i ∧ i ≤ p.size ∧ Hid (X = (Fit.bodyL first (p.data.toList.drop i)).map fun y => (Fit.setK false (rs ++ y.1), y.2)) ∧ n ≤ 256 * i ∧ Hid (SetM w wr false n (fun b => rs.any (Fit.inRange b)))) (fun iv _ _ => p.size - (intOf iv).toNat)
  case atStart => exact ⟨1, true, 0, [], by go_num, rfl, by omega, by omega, hX1, by omega, Lib.hid (SetM.start w false)⟩
  case round =>
    obtain ⟨i, first, n, rs, rfl, rfl, hi0, hi, hX, hn, hS⟩ := hrel
    clear hX1
    by_cases hlt : i < p.size
    · have lB : decide ((i : Int) < (p.size : Int)) = true := by simp; omega
      have j0 : (0 : Int) ≤ (i : Int) := by omega
      have l0 : (i : Int) < (p.size : Int) := by omega
      have hY := hX.out
      clear hX
      rw [dropB1 p i hlt] at hY
      by_cases h93 : first = false ∧ p[i] = 93
      · obtain ⟨rfl, h93⟩ := h93
        have q0 := byte_t (k := 93) rfl h93
        have q0' : ((p[i].toNat : Int) != 93) = false := by rw [bne, q0]; rfl
        rw [h93, Fit.bodyL_end] at hY
        simp only [Option.map_some, List.append_nil] at hY
        rw [← hXX.out] at hY
        replace hY := Lib.hid hY
        clear h93 q0
        have hS := hS.out
        have c0 := hS.1.cell
        have c2 := hS.2.2.1.cell
        replace hS := Lib.hid hS
        go_wp2
        go_ret3
        have hS := hS.out
        exact ⟨hS.2.2.2, .inl ⟨_, i, _, _, hY.out, by omega, by omega, rfl, takes_set hS.1 hS.2.2.1 hS.2.1⟩⟩
      · have hq : first = true ∨ (first = false ∧ ((p[i].toNat : Int) != 93) = true) := by
          cases first with
          | true => exact .inl rfl
          | false => exact .inr ⟨rfl, by rw [bne, byte_f (k := 93) rfl (fun h => h93 ⟨rfl, h⟩)]; rfl⟩
        by_cases hr : ∃ h2 : i + 2 < p.size, p[i + 1] = 45 ∧ p[i + 2] ≠ 93
        · obtain ⟨h2, h45, hn93⟩ := hr
          rw [dropB1 p (i + 1) (by omega), dropB1 p (i + 1 + 1) h2, h45, Fit.bodyL_range _ h93 hn93] at hY
          have hY : X = (Fit.bodyL false (p.data.toList.drop (i + 3))).map fun y => (Fit.setK false ((rs ++ [(p[i], p[i + 2])]) ++ y.1), y.2) := by
            rw [hY, Option.map_map]; congr 1; funext y; simp [Function.comp]
          replace hY := Lib.hid hY
          have q1 := byte_t (k := 45) rfl h45
          have q2 : ((p[i + 2].toNat : Int) != 93) = true := by rw [bne, byte_f (k := 93) rfl hn93]; rfl
          clear h93 h45 hn93
          rcases hq with rfl | ⟨rfl, q0⟩
          · skip
            have hS0 := hS.out
            have m2 : decide ((i : Int) + 2 < (p.size : Int)) = true := by simp; omega
            have j1 : (0 : Int) ≤ (i : Int) + 1 := by omega
            have l1 : (i : Int) + 1 < (p.size : Int) := by omega
            have j2 : (0 : Int) ≤ (i : Int) + 2 := by omega
            have l2 : (i : Int) + 2 < (p.size : Int) := by omega
            have hlo8 := p[i].toNat_lt
            have hhi8 := p[i + 2].toNat_lt
            clear hS
            obtain ⟨wo, rfl⟩ : ∃ wo : World, wo = wr := ⟨_, rfl⟩
            go_wp2
            go_loopw [9] (fun cv wi => ∃ (c n2 : Nat), cv = .int .i64 (c : Int) ∧ p[i].toNat ≤ c ∧ (c ≤ p[i + 2].toNat + 1 ∨ c = p[i].toNat) ∧ n2 + p[i].toNat ≤ n + c ∧ Hid (SetM w wi false n2 (fun b => rs.any (Fit.inRange b) || (decide (p[i].toNat ≤ b.toNat) && decide (b.toNat < c))))) (fun cv _ => 256 - (intOf cv).toNat)
            case atStart => exact ⟨p[i].toNat, n, by go_num, Nat.le_refl _, .inr rfl, by omega, Lib.hid (hS0.of (fun b => upto_start _ _ b))⟩
            case round =>
              obtain ⟨c, n2, rfl, hc1, hc2, hn2, hSi⟩ := hrel
              clear hS0
              by_cases hch : c ≤ p[i + 2].toNat
              · have lB : decide ((c : Int) ≤ (p[i + 2].toNat : Int)) = true := by simp; omega
                obtain ⟨x, hx⟩ : ∃ x : UInt8, x.toNat = c := ⟨UInt8.ofNat c, by simp; omega⟩
                obtain ⟨cc, hcc, hlk, W2, hup, hS2⟩ := hSi.out.look (by omega) x
                have hlk := hlk _ hSi.out rfl
                have c2 := hSi.out.2.2.1.cell
                have hS3 := hS2.of (fun b => upto_byte hx hc1 (fun b => rs.any (Fit.inRange b)) b)
                rw [hx] at hlk hup
                have hw8 : IntKind.u8.wrap (c : Int) = (c : Int) := by simp [IntKind.wrap, IntKind.bits, IntKind.signed]; omega
                have hwr : IntKind.i64.wrap ((cc : Int) + 1) = (cc : Int) + 1 := by rw [IntKind.wrap_i64]; omega
                replace hS3 := Lib.hid hS3
                clear hS2 hSi hx
                go_wp2
                go_roundw
                case rel => exact ⟨c + 1, n2 + 1, by go_num, by omega, .inl (by omega), by omega, hS3⟩
                case measure => simp [intOf]; omega
              · have lB : decide ((c : Int) ≤ (p[i + 2].toNat : Int)) = false := by simp; omega
                have hSf : SetM w wr false (n + 256) (fun b => (rs ++ [(p[i], p[i + 2])]).any (Fit.inRange b)) := by
                  have h1 := hSi.out.of (Q := fun b => (rs ++ [(p[i], p[i + 2])]).any (Fit.inRange b)) (fun b => by
                    rw [List.any_append]
                    congr 1
                    simp only [List.any_cons, List.any_nil, Bool.or_false, Fit.inRange]
                    rcases hc2 with hc2 | hc2
                    · have : c = p[i + 2].toNat + 1 := by omega
                      rw [this]
                      congr 1
                      rw [Bool.eq_iff_iff, decide_eq_true_iff, decide_eq_true_iff]; omega
                    · rw [Bool.eq_iff_iff]; simp only [Bool.and_eq_true, decide_eq_true_iff]; omega)
                  exact ⟨h1.1, h1.2.1.mono (by omega), h1.2.2⟩
                replace hSf := Lib.hid hSf
                clear hSi
                go_wp2
                go_roundw
                case rel => exact ⟨i + 3, false, n + 256, rs ++ [(p[i], p[i + 2])], by go_num, rfl, by omega, by omega, hY, by omega, hSf⟩
                case measure => simp [intOf]; omega
          · skip
            have hS0 := hS.out
            have m2 : decide ((i : Int) + 2 < (p.size : Int)) = true := by simp; omega
            have j1 : (0 : Int) ≤ (i : Int) + 1 := by omega
            have l1 : (i : Int) + 1 < (p.size : Int) := by omega
            have j2 : (0 : Int) ≤ (i : Int) + 2 := by omega
            have l2 : (i : Int) + 2 < (p.size : Int) := by omega
            have hlo8 := p[i].toNat_lt
            have hhi8 := p[i + 2].toNat_lt
            clear hS
            obtain ⟨wo, rfl⟩ : ∃ wo : World, wo = wr := ⟨_, rfl⟩
            go_wp2
            go_loopw [9] (fun cv wi => ∃ (c n2 : Nat), cv = .int .i64 (c : Int) ∧ p[i].toNat ≤ c ∧ (c ≤ p[i + 2].toNat + 1 ∨ c = p[i].toNat) ∧ n2 + p[i].toNat ≤ n + c ∧ Hid (SetM w wi false n2 (fun b => rs.any (Fit.inRange b) || (decide (p[i].toNat ≤ b.toNat) && decide (b.toNat < c))))) (fun cv _ => 256 - (intOf cv).toNat)
            case atStart => exact ⟨p[i].toNat, n, by go_num, Nat.le_refl _, .inr rfl, by omega, Lib.hid (hS0.of (fun b => upto_start _ _ b))⟩
            case round =>
              obtain ⟨c, n2, rfl, hc1, hc2, hn2, hSi⟩ := hrel
              clear hS0
              by_cases hch : c ≤ p[i + 2].toNat
              · have lB : decide ((c : Int) ≤ (p[i + 2].toNat : Int)) = true := by simp; omega
                obtain ⟨x, hx⟩ : ∃ x : UInt8, x.toNat = c := ⟨UInt8.ofNat c, by simp; omega⟩
                obtain ⟨cc, hcc, hlk, W2, hup, hS2⟩ := hSi.out.look (by omega) x
                have hlk := hlk _ hSi.out rfl
                have c2 := hSi.out.2.2.1.cell
                have hS3 := hS2.of (fun b => upto_byte hx hc1 (fun b => rs.any (Fit.inRange b)) b)
                rw [hx] at hlk hup
                have hw8 : IntKind.u8.wrap (c : Int) = (c : Int) := by simp [IntKind.wrap, IntKind.bits, IntKind.signed]; omega
                have hwr : IntKind.i64.wrap ((cc : Int) + 1) = (cc : Int) + 1 := by rw [IntKind.wrap_i64]; omega
                replace hS3 := Lib.hid hS3
                clear hS2 hSi hx
                go_wp2
                go_roundw
                case rel => exact ⟨c + 1, n2 + 1, by go_num, by omega, .inl (by omega), by omega, hS3⟩
                case measure => simp [intOf]; omega
              · have lB : decide ((c : Int) ≤ (p[i + 2].toNat : Int)) = false := by simp; omega
                have hSf : SetM w wr false (n + 256) (fun b => (rs ++ [(p[i], p[i + 2])]).any (Fit.inRange b)) := by
                  have h1 := hSi.out.of (Q := fun b => (rs ++ [(p[i], p[i + 2])]).any (Fit.inRange b)) (fun b => by
                    rw [List.any_append]
                    congr 1
                    simp only [List.any_cons, List.any_nil, Bool.or_false, Fit.inRange]
                    rcases hc2 with hc2 | hc2
                    · have : c = p[i + 2].toNat + 1 := by omega
                      rw [this]
                      congr 1
                      rw [Bool.eq_iff_iff, decide_eq_true_iff, decide_eq_true_iff]; omega
                    · rw [Bool.eq_iff_iff]; simp only [Bool.and_eq_true, decide_eq_true_iff]; omega)
                  exact ⟨h1.1, h1.2.1.mono (by omega), h1.2.2⟩
                replace hSf := Lib.hid hSf
                clear hSi
                go_wp2
                go_roundw
                case rel => exact ⟨i + 3, false, n + 256, rs ++ [(p[i], p[i + 2])], by go_num, rfl, by omega, by omega, hY, by omega, hSf⟩
                case measure => simp [intOf]; omega
        · have hr2 : ∀ h2 : i + 2 < p.size, ¬ (p[i + 1] = 45 ∧ p[i + 2] ≠ 93) := fun h2 h => hr ⟨h2, h⟩
          rw [Fit.bodyL_one _ h93 (no_range p i hr2)] at hY
          have hY : X = (Fit.bodyL false (p.data.toList.drop (i + 1))).map fun y => (Fit.setK false ((rs ++ [(p[i], p[i])]) ++ y.1), y.2) := by
            rw [hY, Option.map_map]; congr 1; funext y; simp [Function.comp]
          replace hY := Lib.hid hY
          have hway : (decide ((i : Int) + 2 < (p.size : Int)) = false ∧ ¬ i + 2 < p.size) ∨ ∃ h2 : i + 2 < p.size, ((p[i + 1].toNat : Int) == 45) = false ∨ (((p[i + 1].toNat : Int) == 45) = true ∧ ((p[i + 2].toNat : Int) != 93) = false) := by
            by_cases h2 : i + 2 < p.size
            · refine .inr ⟨h2, ?_⟩
              by_cases h45 : p[i + 1] = 45
              · refine .inr ⟨byte_t rfl h45, ?_⟩
                have : p[i + 2] = 93 := Classical.byContradiction fun h => hr2 h2 ⟨h45, h⟩
                rw [bne, byte_t (k := 93) rfl this]; rfl
              · exact .inl (byte_f rfl h45)
            · exact .inl ⟨by simp; omega, h2⟩
          clear h93 hr hr2
          rcases hq with rfl | ⟨rfl, q0⟩ <;> rcases hway with ⟨m2, hm2⟩ | ⟨h2, hway⟩
          · skip
            have hSd := hS.out.drew
            obtain ⟨cc, hcc, hlk, W2, hup, hS2⟩ := hSd.look (by omega) p[i]
            have hlk := hlk _ hSd rfl
            have c2 := hSd.2.2.1.cell
            have hwr : IntKind.i64.wrap ((cc : Int) + 1) = (cc : Int) + 1 := by rw [IntKind.wrap_i64]; omega
            have hS3 : SetM w W2 false (n + 1) (fun b => (rs ++ [(p[i], p[i])]).any (Fit.inRange b)) := hS2.of (fun b => by rw [List.any_append]; congr 1; simp only [List.any_cons, List.any_nil, Bool.or_false]; rw [Fit.inRange_one, Bool.eq_iff_iff, beq_iff_eq, beq_iff_eq]; exact eq_comm)
            replace hS3 := Lib.hid hS3
            clear hS hSd hS2
            go_wp2
            go_region
            all_goals (
              go_wp2
              go_roundw
              case rel => exact ⟨i + 1, false, n + 1, rs ++ [(p[i], p[i])], by go_num, rfl, by omega, by omega, hY, by omega, hS3⟩
              case measure => simp [intOf]; omega)
          · have m2 : decide ((i : Int) + 2 < (p.size : Int)) = true := by simp; omega
            have j1 : (0 : Int) ≤ (i : Int) + 1 := by omega
            have l1 : (i : Int) + 1 < (p.size : Int) := by omega
            have j2 : (0 : Int) ≤ (i : Int) + 2 := by omega
            have l2 : (i : Int) + 2 < (p.size : Int) := by omega
            rcases hway with q1 | ⟨q1, q2⟩
            · skip
              have hSd := hS.out.drew
              obtain ⟨cc, hcc, hlk, W2, hup, hS2⟩ := hSd.look (by omega) p[i]
              have hlk := hlk _ hSd rfl
              have c2 := hSd.2.2.1.cell
              have hwr : IntKind.i64.wrap ((cc : Int) + 1) = (cc : Int) + 1 := by rw [IntKind.wrap_i64]; omega
              have hS3 : SetM w W2 false (n + 1) (fun b => (rs ++ [(p[i], p[i])]).any (Fit.inRange b)) := hS2.of (fun b => by rw [List.any_append]; congr 1; simp only [List.any_cons, List.any_nil, Bool.or_false]; rw [Fit.inRange_one, Bool.eq_iff_iff, beq_iff_eq, beq_iff_eq]; exact eq_comm)
              replace hS3 := Lib.hid hS3
              clear hS hSd hS2
              go_wp2
              go_region
              all_goals (
                go_wp2
                go_roundw
                case rel => exact ⟨i + 1, false, n + 1, rs ++ [(p[i], p[i])], by go_num, rfl, by omega, by omega, hY, by omega, hS3⟩
                case measure => simp [intOf]; omega)
            · skip
              have hSd := hS.out.drew
              obtain ⟨cc, hcc, hlk, W2, hup, hS2⟩ := hSd.look (by omega) p[i]
              have hlk := hlk _ hSd rfl
              have c2 := hSd.2.2.1.cell
              have hwr : IntKind.i64.wrap ((cc : Int) + 1) = (cc : Int) + 1 := by rw [IntKind.wrap_i64]; omega
              have hS3 : SetM w W2 false (n + 1) (fun b => (rs ++ [(p[i], p[i])]).any (Fit.inRange b)) := hS2.of (fun b => by rw [List.any_append]; congr 1; simp only [List.any_cons, List.any_nil, Bool.or_false]; rw [Fit.inRange_one, Bool.eq_iff_iff, beq_iff_eq, beq_iff_eq]; exact eq_comm)
              replace hS3 := Lib.hid hS3
              clear hS hSd hS2
              go_wp2
              go_region
              all_goals (
                go_wp2
                go_roundw
                case rel => exact ⟨i + 1, false, n + 1, rs ++ [(p[i], p[i])], by go_num, rfl, by omega, by omega, hY, by omega, hS3⟩
                case measure => simp [intOf]; omega)
          · skip
            have hSd := hS.out.drew
            obtain ⟨cc, hcc, hlk, W2, hup, hS2⟩ := hSd.look (by omega) p[i]
            have hlk := hlk _ hSd rfl
            have c2 := hSd.2.2.1.cell
            have hwr : IntKind.i64.wrap ((cc : Int) + 1) = (cc : Int) + 1 := by rw [IntKind.wrap_i64]; omega
            have hS3 : SetM w W2 false (n + 1) (fun b => (rs ++ [(p[i], p[i])]).any (Fit.inRange b)) := hS2.of (fun b => by rw [List.any_append]; congr 1; simp only [List.any_cons, List.any_nil, Bool.or_false]; rw [Fit.inRange_one, Bool.eq_iff_iff, beq_iff_eq, beq_iff_eq]; exact eq_comm)
            replace hS3 := Lib.hid hS3
            clear hS hSd hS2
            go_wp2
            go_region
            all_goals (
              go_wp2
              go_roundw
              case rel => exact ⟨i + 1, false, n + 1, rs ++ [(p[i], p[i])], by go_num, rfl, by omega, by omega, hY, by omega, hS3⟩
              case measure => simp [intOf]; omega)
          · have m2 : decide ((i : Int) + 2 < (p.size : Int)) = true := by simp; omega
            have j1 : (0 : Int) ≤ (i : Int) + 1 := by omega
            have l1 : (i : Int) + 1 < (p.size : Int) := by omega
            have j2 : (0 : Int) ≤ (i : Int) + 2 := by omega
            have l2 : (i : Int) + 2 < (p.size : Int) := by omega
            rcases hway with q1 | ⟨q1, q2⟩
            · skip
              have hSd := hS.out.drew
              obtain ⟨cc, hcc, hlk, W2, hup, hS2⟩ := hSd.look (by omega) p[i]
              have hlk := hlk _ hSd rfl
              have c2 := hSd.2.2.1.cell
              have hwr : IntKind.i64.wrap ((cc : Int) + 1) = (cc : Int) + 1 := by rw [IntKind.wrap_i64]; omega
              have hS3 : SetM w W2 false (n + 1) (fun b => (rs ++ [(p[i], p[i])]).any (Fit.inRange b)) := hS2.of (fun b => by rw [List.any_append]; congr 1; simp only [List.any_cons, List.any_nil, Bool.or_false]; rw [Fit.inRange_one, Bool.eq_iff_iff, beq_iff_eq, beq_iff_eq]; exact eq_comm)
              replace hS3 := Lib.hid hS3
              clear hS hSd hS2
              go_wp2
              go_region
              all_goals (
                go_wp2
                go_roundw
                case rel => exact ⟨i + 1, false, n + 1, rs ++ [(p[i], p[i])], by go_num, rfl, by omega, by omega, hY, by omega, hS3⟩
                case measure => simp [intOf]; omega)
            · skip
              have hSd := hS.out.drew
              obtain ⟨cc, hcc, hlk, W2, hup, hS2⟩ := hSd.look (by omega) p[i]
              have hlk := hlk _ hSd rfl
              have c2 := hSd.2.2.1.cell
              have hwr : IntKind.i64.wrap ((cc : Int) + 1) = (cc : Int) + 1 := by rw [IntKind.wrap_i64]; omega
              have hS3 : SetM w W2 false (n + 1) (fun b => (rs ++ [(p[i], p[i])]).any (Fit.inRange b)) := hS2.of (fun b => by rw [List.any_append]; congr 1; simp only [List.any_cons, List.any_nil, Bool.or_false]; rw [Fit.inRange_one, Bool.eq_iff_iff, beq_iff_eq, beq_iff_eq]; exact eq_comm)
              replace hS3 := Lib.hid hS3
              clear hS hSd hS2
              go_wp2
              go_region
              all_goals (
                go_wp2
                go_roundw
                case rel => exact ⟨i + 1, false, n + 1, rs ++ [(p[i], p[i])], by go_num, rfl, by omega, by omega, hY, by omega, hS3⟩
                case measure => simp [intOf]; omega)
    · have hY := hX.out
      clear hX
      rw [dropB0 p i (by omega), Fit.bodyL_nil] at hY
      simp only [Option.map_none] at hY
      rw [← hXX.out] at hY
      replace hY := Lib.hid hY
      have lB : decide ((i : Int) < (p.size : Int)) = false := by simp; omega
      have hS := hS.out
      have c0 := hS.1.cell
      have c2 := hS.2.2.1.cell
      replace hS := Lib.hid hS
      go_wp2
      go_ret3
      have hS := hS.out
      exact ⟨hS.2.2.2, .inr ⟨hY.out, _, _, _, rfl⟩⟩

set_option maxHeartbeats 16000000 in
theorem set_short (p : ByteArray) (w : World) (hp : p.size ≤ 1048576) (h0 : 0 < p.size) (h1 : ¬ 1 < p.size) (hX0 : Hid (Fit.setOf (p.data.toList.drop 1) = (Fit.bodyL true (p.data.toList.drop 1)).map fun y => (Fit.setK false y.1, y.2))) :
    Calls Tryz.prog 112 #[.string p] w (RetSet p w) := by
  have hmm := @run_makeMap Tryz.prog
  have m1 : decide ((1 : Int) < (p.size : Int)) = false := by simp; omega
  go_enter Tryz.func112, Tryz.ntmps112
  go_wp2
  obtain ⟨X, hXX⟩ : ∃ X, Fit.setOf (p.data.toList.drop 1) = X := ⟨_, rfl⟩
  have hX1 : Hid (X = (Fit.bodyL true (p.data.toList.drop 1)).map fun y => (Fit.setK false ([] ++ y.1), y.2)) := Lib.hid (by rw [← hXX, hX0.out]; rfl)
  replace hXX := Lib.hid hXX
  clear hX0 hmm
  go_loopw [5, 8] (fun iv fv wr => ∃ (i : Nat) (first : Bool) (n : Nat) (rs : List (UInt8 × UInt8)), iv = .int .i64 (i : Int) ∧ fv = .bool first ∧ 0 < i ∧ i ≤ p.size ∧ Hid (X = (Fit.bodyL first (p.data.toList.drop i)).map fun y => (Fit.setK false (rs ++ y.1), y.2)) ∧ n ≤ 256 * i ∧ Hid (SetM w wr false n (fun b => rs.any (Fit.inRange b)))) (fun iv _ _ => p.size - (intOf iv).toNat)
  case atStart => exact ⟨1, true, 0, [], by go_num, rfl, by omega, by omega, hX1, by omega, Lib.hid (SetM.start w false)⟩
  case round =>
    obtain ⟨i, first, n, rs, rfl, rfl, hi0, hi, hX, hn, hS⟩ := hrel
    clear hX1
    by_cases hlt : i < p.size
    · have lB : decide ((i : Int) < (p.size : Int)) = true := by simp; omega
      have j0 : (0 : Int) ≤ (i : Int) := by omega
      have l0 : (i : Int) < (p.size : Int) := by omega
      have hY := hX.out
      clear hX
      rw [dropB1 p i hlt] at hY
      by_cases h93 : first = false ∧ p[i] = 93
      · obtain ⟨rfl, h93⟩ := h93
        have q0 := byte_t (k := 93) rfl h93
        have q0' : ((p[i].toNat : Int) != 93) = false := by rw [bne, q0]; rfl
        rw [h93, Fit.bodyL_end] at hY
        simp only [Option.map_some, List.append_nil] at hY
        rw [← hXX.out] at hY
        replace hY := Lib.hid hY
        clear h93 q0
        have hS := hS.out
        have c0 := hS.1.cell
        have c2 := hS.2.2.1.cell
        replace hS := Lib.hid hS
        go_wp2
        go_ret3
        have hS := hS.out
        exact ⟨hS.2.2.2, .inl ⟨_, i, _, _, hY.out, by omega, by omega, rfl, takes_set hS.1 hS.2.2.1 hS.2.1⟩⟩
      · have hq : first = true ∨ (first = false ∧ ((p[i].toNat : Int) != 93) = true) := by
          cases first with
          | true => exact .inl rfl
          | false => exact .inr ⟨rfl, by rw [bne, byte_f (k := 93) rfl (fun h => h93 ⟨rfl, h⟩)]; rfl⟩
        by_cases hr : ∃ h2 : i + 2 < p.size, p[i + 1] = 45 ∧ p[i + 2] ≠ 93
        · obtain ⟨h2, h45, hn93⟩ := hr
          rw [dropB1 p (i + 1) (by omega), dropB1 p (i + 1 + 1) h2, h45, Fit.bodyL_range _ h93 hn93] at hY
          have hY : X = (Fit.bodyL false (p.data.toList.drop (i + 3))).map fun y => (Fit.setK false ((rs ++ [(p[i], p[i + 2])]) ++ y.1), y.2) := by
            rw [hY, Option.map_map]; congr 1; funext y; simp [Function.comp]
          replace hY := Lib.hid hY
          have q1 := byte_t (k := 45) rfl h45
          have q2 : ((p[i + 2].toNat : Int) != 93) = true := by rw [bne, byte_f (k := 93) rfl hn93]; rfl
          clear h93 h45 hn93
          rcases hq with rfl | ⟨rfl, q0⟩
          · skip
            have hS0 := hS.out
            have m2 : decide ((i : Int) + 2 < (p.size : Int)) = true := by simp; omega
            have j1 : (0 : Int) ≤ (i : Int) + 1 := by omega
            have l1 : (i : Int) + 1 < (p.size : Int) := by omega
            have j2 : (0 : Int) ≤ (i : Int) + 2 := by omega
            have l2 : (i : Int) + 2 < (p.size : Int) := by omega
            have hlo8 := p[i].toNat_lt
            have hhi8 := p[i + 2].toNat_lt
            clear hS
            obtain ⟨wo, rfl⟩ : ∃ wo : World, wo = wr := ⟨_, rfl⟩
            go_wp2
            go_loopw [9] (fun cv wi => ∃ (c n2 : Nat), cv = .int .i64 (c : Int) ∧ p[i].toNat ≤ c ∧ (c ≤ p[i + 2].toNat + 1 ∨ c = p[i].toNat) ∧ n2 + p[i].toNat ≤ n + c ∧ Hid (SetM w wi false n2 (fun b => rs.any (Fit.inRange b) || (decide (p[i].toNat ≤ b.toNat) && decide (b.toNat < c))))) (fun cv _ => 256 - (intOf cv).toNat)
            case atStart => exact ⟨p[i].toNat, n, by go_num, Nat.le_refl _, .inr rfl, by omega, Lib.hid (hS0.of (fun b => upto_start _ _ b))⟩
            case round =>
              obtain ⟨c, n2, rfl, hc1, hc2, hn2, hSi⟩ := hrel
              clear hS0
              by_cases hch : c ≤ p[i + 2].toNat
              · have lB : decide ((c : Int) ≤ (p[i + 2].toNat : Int)) = true := by simp; omega
                obtain ⟨x, hx⟩ : ∃ x : UInt8, x.toNat = c := ⟨UInt8.ofNat c, by simp; omega⟩
                obtain ⟨cc, hcc, hlk, W2, hup, hS2⟩ := hSi.out.look (by omega) x
                have hlk := hlk _ hSi.out rfl
                have c2 := hSi.out.2.2.1.cell
                have hS3 := hS2.of (fun b => upto_byte hx hc1 (fun b => rs.any (Fit.inRange b)) b)
                rw [hx] at hlk hup
                have hw8 : IntKind.u8.wrap (c : Int) = (c : Int) := by simp [IntKind.wrap, IntKind.bits, IntKind.signed]; omega
                have hwr : IntKind.i64.wrap ((cc : Int) + 1) = (cc : Int) + 1 := by rw [IntKind.wrap_i64]; omega
                replace hS3 := Lib.hid hS3
                clear hS2 hSi hx
                go_wp2
                go_roundw
                case rel => exact ⟨c + 1, n2 + 1, by go_num, by omega, .inl (by omega), by omega, hS3⟩
                case measure => simp [intOf]; omega
              · have lB : decide ((c : Int) ≤ (p[i + 2].toNat : Int)) = false := by simp; omega
                have hSf : SetM w wr false (n + 256) (fun b => (rs ++ [(p[i], p[i + 2])]).any (Fit.inRange b)) := by
                  have h1 := hSi.out.of (Q := fun b => (rs ++ [(p[i], p[i + 2])]).any (Fit.inRange b)) (fun b => by
                    rw [List.any_append]
                    congr 1
                    simp only [List.any_cons, List.any_nil, Bool.or_false, Fit.inRange]
                    rcases hc2 with hc2 | hc2
                    · have : c = p[i + 2].toNat + 1 := by omega
                      rw [this]
                      congr 1
                      rw [Bool.eq_iff_iff, decide_eq_true_iff, decide_eq_true_iff]; omega
                    · rw [Bool.eq_iff_iff]; simp only [Bool.and_eq_true, decide_eq_true_iff]; omega)
                  exact ⟨h1.1, h1.2.1.mono (by omega), h1.2.2⟩
                replace hSf := Lib.hid hSf
                clear hSi
                go_wp2
                go_roundw
                case rel => exact ⟨i + 3, false, n + 256, rs ++ [(p[i], p[i + 2])], by go_num, rfl, by omega, by omega, hY, by omega, hSf⟩
                case measure => simp [intOf]; omega
          · skip
            have hS0 := hS.out
            have m2 : decide ((i : Int) + 2 < (p.size : Int)) = true := by simp; omega
            have j1 : (0 : Int) ≤ (i : Int) + 1 := by omega
            have l1 : (i : Int) + 1 < (p.size : Int) := by omega
            have j2 : (0 : Int) ≤ (i : Int) + 2 := by omega
            have l2 : (i : Int) + 2 < (p.size : Int) := by omega
            have hlo8 := p[i].toNat_lt
            have hhi8 := p[i + 2].toNat_lt
            clear hS
            obtain ⟨wo, rfl⟩ : ∃ wo : World, wo = wr := ⟨_, rfl⟩
            go_wp2
            go_loopw [9] (fun cv wi => ∃ (c n2 : Nat), cv = .int .i64 (c : Int) ∧ p[i].toNat ≤ c ∧ (c ≤ p[i + 2].toNat + 1 ∨ c = p[i].toNat) ∧ n2 + p[i].toNat ≤ n + c ∧ Hid (SetM w wi false n2 (fun b => rs.any (Fit.inRange b) || (decide (p[i].toNat ≤ b.toNat) && decide (b.toNat < c))))) (fun cv _ => 256 - (intOf cv).toNat)
            case atStart => exact ⟨p[i].toNat, n, by go_num, Nat.le_refl _, .inr rfl, by omega, Lib.hid (hS0.of (fun b => upto_start _ _ b))⟩
            case round =>
              obtain ⟨c, n2, rfl, hc1, hc2, hn2, hSi⟩ := hrel
              clear hS0
              by_cases hch : c ≤ p[i + 2].toNat
              · have lB : decide ((c : Int) ≤ (p[i + 2].toNat : Int)) = true := by simp; omega
                obtain ⟨x, hx⟩ : ∃ x : UInt8, x.toNat = c := ⟨UInt8.ofNat c, by simp; omega⟩
                obtain ⟨cc, hcc, hlk, W2, hup, hS2⟩ := hSi.out.look (by omega) x
                have hlk := hlk _ hSi.out rfl
                have c2 := hSi.out.2.2.1.cell
                have hS3 := hS2.of (fun b => upto_byte hx hc1 (fun b => rs.any (Fit.inRange b)) b)
                rw [hx] at hlk hup
                have hw8 : IntKind.u8.wrap (c : Int) = (c : Int) := by simp [IntKind.wrap, IntKind.bits, IntKind.signed]; omega
                have hwr : IntKind.i64.wrap ((cc : Int) + 1) = (cc : Int) + 1 := by rw [IntKind.wrap_i64]; omega
                replace hS3 := Lib.hid hS3
                clear hS2 hSi hx
                go_wp2
                go_roundw
                case rel => exact ⟨c + 1, n2 + 1, by go_num, by omega, .inl (by omega), by omega, hS3⟩
                case measure => simp [intOf]; omega
              · have lB : decide ((c : Int) ≤ (p[i + 2].toNat : Int)) = false := by simp; omega
                have hSf : SetM w wr false (n + 256) (fun b => (rs ++ [(p[i], p[i + 2])]).any (Fit.inRange b)) := by
                  have h1 := hSi.out.of (Q := fun b => (rs ++ [(p[i], p[i + 2])]).any (Fit.inRange b)) (fun b => by
                    rw [List.any_append]
                    congr 1
                    simp only [List.any_cons, List.any_nil, Bool.or_false, Fit.inRange]
                    rcases hc2 with hc2 | hc2
                    · have : c = p[i + 2].toNat + 1 := by omega
                      rw [this]
                      congr 1
                      rw [Bool.eq_iff_iff, decide_eq_true_iff, decide_eq_true_iff]; omega
                    · rw [Bool.eq_iff_iff]; simp only [Bool.and_eq_true, decide_eq_true_iff]; omega)
                  exact ⟨h1.1, h1.2.1.mono (by omega), h1.2.2⟩
                replace hSf := Lib.hid hSf
                clear hSi
                go_wp2
                go_roundw
                case rel => exact ⟨i + 3, false, n + 256, rs ++ [(p[i], p[i + 2])], by go_num, rfl, by omega, by omega, hY, by omega, hSf⟩
                case measure => simp [intOf]; omega
        · have hr2 : ∀ h2 : i + 2 < p.size, ¬ (p[i + 1] = 45 ∧ p[i + 2] ≠ 93) := fun h2 h => hr ⟨h2, h⟩
          rw [Fit.bodyL_one _ h93 (no_range p i hr2)] at hY
          have hY : X = (Fit.bodyL false (p.data.toList.drop (i + 1))).map fun y => (Fit.setK false ((rs ++ [(p[i], p[i])]) ++ y.1), y.2) := by
            rw [hY, Option.map_map]; congr 1; funext y; simp [Function.comp]
          replace hY := Lib.hid hY
          have hway : (decide ((i : Int) + 2 < (p.size : Int)) = false ∧ ¬ i + 2 < p.size) ∨ ∃ h2 : i + 2 < p.size, ((p[i + 1].toNat : Int) == 45) = false ∨ (((p[i + 1].toNat : Int) == 45) = true ∧ ((p[i + 2].toNat : Int) != 93) = false) := by
            by_cases h2 : i + 2 < p.size
            · refine .inr ⟨h2, ?_⟩
              by_cases h45 : p[i + 1] = 45
              · refine .inr ⟨byte_t rfl h45, ?_⟩
                have : p[i + 2] = 93 := Classical.byContradiction fun h => hr2 h2 ⟨h45, h⟩
                rw [bne, byte_t (k := 93) rfl this]; rfl
              · exact .inl (byte_f rfl h45)
            · exact .inl ⟨by simp; omega, h2⟩
          clear h93 hr hr2
          rcases hq with rfl | ⟨rfl, q0⟩ <;> rcases hway with ⟨m2, hm2⟩ | ⟨h2, hway⟩
          · skip
            have hSd := hS.out.drew
            obtain ⟨cc, hcc, hlk, W2, hup, hS2⟩ := hSd.look (by omega) p[i]
            have hlk := hlk _ hSd rfl
            have c2 := hSd.2.2.1.cell
            have hwr : IntKind.i64.wrap ((cc : Int) + 1) = (cc : Int) + 1 := by rw [IntKind.wrap_i64]; omega
            have hS3 : SetM w W2 false (n + 1) (fun b => (rs ++ [(p[i], p[i])]).any (Fit.inRange b)) := hS2.of (fun b => by rw [List.any_append]; congr 1; simp only [List.any_cons, List.any_nil, Bool.or_false]; rw [Fit.inRange_one, Bool.eq_iff_iff, beq_iff_eq, beq_iff_eq]; exact eq_comm)
            replace hS3 := Lib.hid hS3
            clear hS hSd hS2
            go_wp2
            go_region
            all_goals (
              go_wp2
              go_roundw
              case rel => exact ⟨i + 1, false, n + 1, rs ++ [(p[i], p[i])], by go_num, rfl, by omega, by omega, hY, by omega, hS3⟩
              case measure => simp [intOf]; omega)
          · have m2 : decide ((i : Int) + 2 < (p.size : Int)) = true := by simp; omega
            have j1 : (0 : Int) ≤ (i : Int) + 1 := by omega
            have l1 : (i : Int) + 1 < (p.size : Int) := by omega
            have j2 : (0 : Int) ≤ (i : Int) + 2 := by omega
            have l2 : (i : Int) + 2 < (p.size : Int) := by omega
            rcases hway with q1 | ⟨q1, q2⟩
            · skip
              have hSd := hS.out.drew
              obtain ⟨cc, hcc, hlk, W2, hup, hS2⟩ := hSd.look (by omega) p[i]
              have hlk := hlk _ hSd rfl
              have c2 := hSd.2.2.1.cell
              have hwr : IntKind.i64.wrap ((cc : Int) + 1) = (cc : Int) + 1 := by rw [IntKind.wrap_i64]; omega
              have hS3 : SetM w W2 false (n + 1) (fun b => (rs ++ [(p[i], p[i])]).any (Fit.inRange b)) := hS2.of (fun b => by rw [List.any_append]; congr 1; simp only [List.any_cons, List.any_nil, Bool.or_false]; rw [Fit.inRange_one, Bool.eq_iff_iff, beq_iff_eq, beq_iff_eq]; exact eq_comm)
              replace hS3 := Lib.hid hS3
              clear hS hSd hS2
              go_wp2
              go_region
              all_goals (
                go_wp2
                go_roundw
                case rel => exact ⟨i + 1, false, n + 1, rs ++ [(p[i], p[i])], by go_num, rfl, by omega, by omega, hY, by omega, hS3⟩
                case measure => simp [intOf]; omega)
            · skip
              have hSd := hS.out.drew
              obtain ⟨cc, hcc, hlk, W2, hup, hS2⟩ := hSd.look (by omega) p[i]
              have hlk := hlk _ hSd rfl
              have c2 := hSd.2.2.1.cell
              have hwr : IntKind.i64.wrap ((cc : Int) + 1) = (cc : Int) + 1 := by rw [IntKind.wrap_i64]; omega
              have hS3 : SetM w W2 false (n + 1) (fun b => (rs ++ [(p[i], p[i])]).any (Fit.inRange b)) := hS2.of (fun b => by rw [List.any_append]; congr 1; simp only [List.any_cons, List.any_nil, Bool.or_false]; rw [Fit.inRange_one, Bool.eq_iff_iff, beq_iff_eq, beq_iff_eq]; exact eq_comm)
              replace hS3 := Lib.hid hS3
              clear hS hSd hS2
              go_wp2
              go_region
              all_goals (
                go_wp2
                go_roundw
                case rel => exact ⟨i + 1, false, n + 1, rs ++ [(p[i], p[i])], by go_num, rfl, by omega, by omega, hY, by omega, hS3⟩
                case measure => simp [intOf]; omega)
          · skip
            have hSd := hS.out.drew
            obtain ⟨cc, hcc, hlk, W2, hup, hS2⟩ := hSd.look (by omega) p[i]
            have hlk := hlk _ hSd rfl
            have c2 := hSd.2.2.1.cell
            have hwr : IntKind.i64.wrap ((cc : Int) + 1) = (cc : Int) + 1 := by rw [IntKind.wrap_i64]; omega
            have hS3 : SetM w W2 false (n + 1) (fun b => (rs ++ [(p[i], p[i])]).any (Fit.inRange b)) := hS2.of (fun b => by rw [List.any_append]; congr 1; simp only [List.any_cons, List.any_nil, Bool.or_false]; rw [Fit.inRange_one, Bool.eq_iff_iff, beq_iff_eq, beq_iff_eq]; exact eq_comm)
            replace hS3 := Lib.hid hS3
            clear hS hSd hS2
            go_wp2
            go_region
            all_goals (
              go_wp2
              go_roundw
              case rel => exact ⟨i + 1, false, n + 1, rs ++ [(p[i], p[i])], by go_num, rfl, by omega, by omega, hY, by omega, hS3⟩
              case measure => simp [intOf]; omega)
          · have m2 : decide ((i : Int) + 2 < (p.size : Int)) = true := by simp; omega
            have j1 : (0 : Int) ≤ (i : Int) + 1 := by omega
            have l1 : (i : Int) + 1 < (p.size : Int) := by omega
            have j2 : (0 : Int) ≤ (i : Int) + 2 := by omega
            have l2 : (i : Int) + 2 < (p.size : Int) := by omega
            rcases hway with q1 | ⟨q1, q2⟩
            · skip
              have hSd := hS.out.drew
              obtain ⟨cc, hcc, hlk, W2, hup, hS2⟩ := hSd.look (by omega) p[i]
              have hlk := hlk _ hSd rfl
              have c2 := hSd.2.2.1.cell
              have hwr : IntKind.i64.wrap ((cc : Int) + 1) = (cc : Int) + 1 := by rw [IntKind.wrap_i64]; omega
              have hS3 : SetM w W2 false (n + 1) (fun b => (rs ++ [(p[i], p[i])]).any (Fit.inRange b)) := hS2.of (fun b => by rw [List.any_append]; congr 1; simp only [List.any_cons, List.any_nil, Bool.or_false]; rw [Fit.inRange_one, Bool.eq_iff_iff, beq_iff_eq, beq_iff_eq]; exact eq_comm)
              replace hS3 := Lib.hid hS3
              clear hS hSd hS2
              go_wp2
              go_region
              all_goals (
                go_wp2
                go_roundw
                case rel => exact ⟨i + 1, false, n + 1, rs ++ [(p[i], p[i])], by go_num, rfl, by omega, by omega, hY, by omega, hS3⟩
                case measure => simp [intOf]; omega)
            · skip
              have hSd := hS.out.drew
              obtain ⟨cc, hcc, hlk, W2, hup, hS2⟩ := hSd.look (by omega) p[i]
              have hlk := hlk _ hSd rfl
              have c2 := hSd.2.2.1.cell
              have hwr : IntKind.i64.wrap ((cc : Int) + 1) = (cc : Int) + 1 := by rw [IntKind.wrap_i64]; omega
              have hS3 : SetM w W2 false (n + 1) (fun b => (rs ++ [(p[i], p[i])]).any (Fit.inRange b)) := hS2.of (fun b => by rw [List.any_append]; congr 1; simp only [List.any_cons, List.any_nil, Bool.or_false]; rw [Fit.inRange_one, Bool.eq_iff_iff, beq_iff_eq, beq_iff_eq]; exact eq_comm)
              replace hS3 := Lib.hid hS3
              clear hS hSd hS2
              go_wp2
              go_region
              all_goals (
                go_wp2
                go_roundw
                case rel => exact ⟨i + 1, false, n + 1, rs ++ [(p[i], p[i])], by go_num, rfl, by omega, by omega, hY, by omega, hS3⟩
                case measure => simp [intOf]; omega)
    · have hY := hX.out
      clear hX
      rw [dropB0 p i (by omega), Fit.bodyL_nil] at hY
      simp only [Option.map_none] at hY
      rw [← hXX.out] at hY
      replace hY := Lib.hid hY
      have lB : decide ((i : Int) < (p.size : Int)) = false := by simp; omega
      have hS := hS.out
      have c0 := hS.1.cell
      have c2 := hS.2.2.1.cell
      replace hS := Lib.hid hS
      go_wp2
      go_ret3
      have hS := hS.out
      exact ⟨hS.2.2.2, .inr ⟨hY.out, _, _, _, rfl⟩⟩

theorem set_any (p : ByteArray) (w : World) (hp : p.size ≤ 1048576) (h0 : 0 < p.size) : Calls Tryz.prog 112 #[.string p] w (RetSet p w) := by
  by_cases h1 : 1 < p.size
  · by_cases h94 : p[1] = 94
    · exact set_not p w hp h0 h1 (byte_t rfl h94) (Lib.hid (by rw [dropB1 p 1 h1, h94, Fit.setOf_not]))
    · exact set_plain p w hp h0 h1 (byte_f rfl h94) (Lib.hid (by rw [dropB1 p 1 h1, Fit.setOf_plain _ h94]))
  · exact set_short p w hp h0 h1 (Lib.hid (by rw [dropB0 p 1 (by omega)]; rfl))

end Go.Proofs.YtmkgalcojoeniaaGreatDoor
