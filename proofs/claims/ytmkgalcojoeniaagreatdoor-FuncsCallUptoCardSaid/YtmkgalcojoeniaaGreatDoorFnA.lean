/- Walks: the table of functions, and the search in it. Walks: find, Has (package funcs). -/
import Derived.Test.YtmkgalcojoeniaaGreatDoorEqual
import Derived.Test.YtmkgalcojoeniaaGreatDoorBelow
import Derived.Test.YtmkgalcojoeniaaGreatDoorBlk
import Derived.RangeFuncBox
set_option maxRecDepth 100000
set_option linter.unusedVariables false
set_option linter.unusedSimpArgs false
namespace Go.Proofs.YtmkgalcojoeniaaGreatDoor
open Go.RowKit

/-- what a function of the table is, as a value -/
inductive DoF where
  | plain (f : FuncId)
  | one (f : FuncId)
  | trim (l r : Bool)
  | ext (n : Int)
def DoF.At (lo : Nat) (W : World) (v : Value) : DoF → Prop
  | .plain f => v = .func (.func f) #[] #[]
  | .one f => ∃ B, v = .func (.func 126) #[] #[.pointer (some ⟨B, 0, none⟩)] ∧ lo ≤ B ∧ Boxed W B 76 (.func (.func f) #[] #[])
  | .trim l r => ∃ B C, v = .func (.func 131) #[] #[.pointer (some ⟨B, 0, none⟩), .pointer (some ⟨C, 0, none⟩)] ∧ (lo ≤ B ∧ Boxed W B 4 (.bool l)) ∧ lo ≤ C ∧ Boxed W C 4 (.bool r)
  | .ext n => ∃ B, v = .func (.func 133) #[] #[.pointer (some ⟨B, 0, none⟩)] ∧ lo ≤ B ∧ Boxed W B 3 (.int .i64 n)
theorem boxed_on {W W' : World} {B : Nat} {t : TypeId} {v : Value} (h : Boxed W B t v) (hb : Below W.heap.size W W') : Boxed W' B t v := (hb.block _ h.lt).trans h
theorem DoF.At.map {lo lo' : Nat} {W W' : World} {v : Value} {d : DoF} (h : d.At lo W v) (hl : lo' ≤ lo) (f : ∀ B t v, lo ≤ B → Boxed W B t v → Boxed W' B t v) : d.At lo' W' v := by
  cases d with
  | plain f => exact h
  | one _ => obtain ⟨B, e, l1, h⟩ := h; exact ⟨B, e, Nat.le_trans hl l1, f _ _ _ l1 h⟩
  | trim l r => obtain ⟨B, C, e, ⟨l1, h⟩, l2, k⟩ := h; exact ⟨B, C, e, ⟨Nat.le_trans hl l1, f _ _ _ l1 h⟩, Nat.le_trans hl l2, f _ _ _ l2 k⟩
  | ext n => obtain ⟨B, e, l1, h⟩ := h; exact ⟨B, e, Nat.le_trans hl l1, f _ _ _ l1 h⟩
theorem DoF.At.on {lo : Nat} {W W' : World} {v : Value} {d : DoF} (h : d.At lo W v) (hb : Below W.heap.size W W') : d.At lo W' v := h.map (Nat.le_refl _) fun _ _ _ _ hx => boxed_on hx hb
theorem DoF.At.low {lo lo' : Nat} {W : World} {v : Value} {d : DoF} (h : d.At lo W v) (hl : lo' ≤ lo) : d.At lo' W v := h.map hl fun _ _ _ _ hx => hx
theorem DoF.At.set {lo : Nat} {W : World} {v : Value} {d : DoF} (h : d.At lo W v) (a : Addr) (u : Value) (ha : a.block < lo) : d.At lo (W.setCell a u) v := h.map (Nat.le_refl _) fun B _ _ hl hx => (Below.heap_setCell W a u B (by omega)).trans hx
/-- values that are functions of the table, kept over all that lies above -/
def Does (w0 W : World) (L : List (Value × DoF)) : Prop := Below w0.heap.size w0 W ∧ ∀ x ∈ L, x.2.At w0.heap.size W x.1
theorem Does.refl (w : World) : Does w w [] := ⟨Below.refl _ _, by simp⟩
theorem Does.on {w0 W W' : World} {L : List (Value × DoF)} (h : Does w0 W L) (hb : Below W.heap.size W W') : Does w0 W' L := ⟨below_step h.1 h.1.size hb, fun x hx => (h.2 x hx).on hb⟩
theorem Does.cons {w0 W W' : World} {L : List (Value × DoF)} {v : Value} {d : DoF} (h : Does w0 W L) (hb : Below W.heap.size W W') (hx : d.At W.heap.size W' v) : Does w0 W' ((v, d) :: L) :=
  ⟨(h.on hb).1, fun x hm => by
    rcases List.mem_cons.1 hm with rfl | hm
    · exact hx.low h.1.size
    · exact (h.on hb).2 x hm⟩

theorem run_store_fn {P : Program} {w : World} (a : Addr) (m : Mode) (fn : Fn) (x y : Array Value) : (store a (.func fn x y) m).run P w = stored P w a (.func fn x y) m := run_store P w a _ m rfl
theorem run_store_nofn {P : Program} {w : World} (a : Addr) (m : Mode) : (store a .nilFunc m).run P w = stored P w a .nilFunc m := run_store P w a _ m rfl
attribute [local go_sem] run_store_fn run_store_nofn

theorem one_any (s : ByteArray) (f : FuncId) (w : World) : Calls Tryz.prog 74 #[.string s, .func (.func f) #[] #[]] w fun e w' => ∃ B, e = .returned (.agg #[.string s, .int .i64 1, .int .i64 1, .bool false, .func (.func 126) #[] #[.pointer (some ⟨B, 0, none⟩)]]) ∧ (DoF.one f).At w.heap.size w' (.func (.func 126) #[] #[.pointer (some ⟨B, 0, none⟩)]) ∧ Below w.heap.size w w' := by
  go_enter Tryz.func74, Tryz.ntmps74
  go_wp2
  refine bodyPost_ret (v := .agg #[.string s, .int .i64 1, .int .i64 1, .bool false, .func (.func 126) #[] #[.pointer (some ⟨w.heap.size, 0, none⟩)]]) (by simp only [results, Tryz.results74]; go_simp) rfl ?_
  exact ⟨_, rfl, ⟨_, rfl, Nat.le_refl _, (Boxed.new _ _ _).alloc _⟩, ((Below.refl _ _).alloc (Nat.le_refl _) _).alloc (by simp) _⟩

theorem trimmer_any (s : ByteArray) (l r : Bool) (w : World) : Calls Tryz.prog 87 #[.string s, .bool l, .bool r] w fun e w' => ∃ B C, e = .returned (.agg #[.string s, .int .i64 1, .int .i64 2, .bool false, .func (.func 131) #[] #[.pointer (some ⟨B, 0, none⟩), .pointer (some ⟨C, 0, none⟩)]]) ∧ (DoF.trim l r).At w.heap.size w' (.func (.func 131) #[] #[.pointer (some ⟨B, 0, none⟩), .pointer (some ⟨C, 0, none⟩)]) ∧ Below w.heap.size w w' := by
  go_enter Tryz.func87, Tryz.ntmps87
  go_wp2
  refine bodyPost_ret (v := .agg #[.string s, .int .i64 1, .int .i64 2, .bool false, .func (.func 131) #[] #[.pointer (some ⟨w.heap.size, 0, none⟩), .pointer (some ⟨w.heap.size + 1, 0, none⟩)]]) (by simp only [results, Tryz.results87]; go_simp) rfl ?_
  exact ⟨_, _, rfl, ⟨_, _, rfl, ⟨Nat.le_refl _, ((Boxed.new _ _ _).alloc _).alloc _⟩, Nat.le_succ _, by have := Boxed.new (w.alloc (.cells #[.bool l] 4)) 4 (.bool r); rw [World.size_alloc] at this; exact this.alloc _⟩, (((Below.refl _ _).alloc (Nat.le_refl _) _).alloc (by simp) _).alloc (by simp; omega) _⟩

theorem extreme_any (n : Int) (w : World) : Calls Tryz.prog 88 #[.int .i64 n] w fun e w' => ∃ B, e = .returned (.func (.func 133) #[] #[.pointer (some ⟨B, 0, none⟩)]) ∧ (DoF.ext n).At w.heap.size w' (.func (.func 133) #[] #[.pointer (some ⟨B, 0, none⟩)]) ∧ Below w.heap.size w w' := by
  go_enter Tryz.func88, Tryz.ntmps88
  go_wp2
  go_ret
  exact ⟨_, rfl, ⟨_, rfl, Nat.le_refl _, Boxed.new _ _ _⟩, (Below.refl _ _).alloc (Nat.le_refl _) _⟩

/-- the table -/

def fnames : List (List UInt8) := [[97, 98, 115], [99, 111, 97, 108, 101, 115, 99, 101], [104, 101, 120], [105, 102, 110, 117, 108, 108], [105, 105, 102], [105, 110, 115, 116, 114], [108, 101, 110, 103, 116, 104], [108, 111, 119, 101, 114], [108, 116, 114, 105, 109], [109, 97, 120], [109, 105, 110], [110, 117, 108, 108, 105, 102], [113, 117, 111, 116, 101], [114, 101, 112, 108, 97, 99, 101], [114, 116, 114, 105, 109], [115, 105, 103, 110], [115, 117, 98, 115, 116, 114], [116, 114, 105, 109], [116, 121, 112, 101, 111, 102], [117, 112, 112, 101, 114]]
def fleasts : List Int := [1, 2, 1, 2, 3, 2, 1, 1, 1, 2, 2, 2, 1, 3, 1, 1, 2, 1, 1, 1]
def fmosts : List Int := [1, -1, 1, 2, 3, 2, 1, 1, 2, -1, -1, 2, 1, 3, 2, 1, 3, 2, 1, 1]
def fnullss : List Bool := [false, true, false, true, true, false, false, false, false, false, false, true, true, false, false, false, false, false, true, false]
def fdos : List DoF := [.one 75, .plain 76, .one 77, .plain 76, .plain 78, .plain 80, .one 84, .one 85, .trim true false, .ext 1, .ext (-1), .plain 89, .plain 91, .plain 92, .trim false true, .one 94, .plain 95, .trim true true, .plain 96, .one 97]
def fname (k : Nat) : ByteArray := bs (fnames.getD k [])
/-- the cells of row k, its function d -/
def fcell (k : Nat) (d : Value) : Nat → Value
  | 0 => .string (fname k)
  | 1 => .int .i64 (fleasts.getD k 0)
  | 2 => .int .i64 (fmosts.getD k 0)
  | 3 => .bool (fnullss.getD k false)
  | _ => d
theorem five {P : Nat → Prop} (h0 : P 0) (h1 : P 1) (h2 : P 2) (h3 : P 3) (h4 : P 4) : ∀ i, i < 5 → P i
  | 0, _ => h0 | 1, _ => h1 | 2, _ => h2 | 3, _ => h3 | 4, _ => h4
theorem twenty {P : Nat → Prop} (h0 : P 0) (h1 : P 1) (h2 : P 2) (h3 : P 3) (h4 : P 4) (h5 : P 5) (h6 : P 6) (h7 : P 7) (h8 : P 8) (h9 : P 9) (h10 : P 10) (h11 : P 11) (h12 : P 12) (h13 : P 13) (h14 : P 14) (h15 : P 15) (h16 : P 16) (h17 : P 17) (h18 : P 18) (h19 : P 19) : ∀ k, k < 20 → P k
  | 0, _ => h0 | 1, _ => h1 | 2, _ => h2 | 3, _ => h3 | 4, _ => h4 | 5, _ => h5 | 6, _ => h6 | 7, _ => h7 | 8, _ => h8 | 9, _ => h9 | 10, _ => h10 | 11, _ => h11 | 12, _ => h12 | 13, _ => h13 | 14, _ => h14 | 15, _ => h15 | 16, _ => h16 | 17, _ => h17 | 18, _ => h18 | 19, _ => h19 | k + 20, h => absurd h (by omega)

/-- the table in memory: row k's cells, its function as the table says -/
def Table (lo : Nat) (W : World) (g : Nat) (d : Nat → Value) : Prop := g < W.heap.size ∧ (∀ k, k < 20 → ∀ i, i < 5 → W.cell? ⟨g, k * 5 + i, none⟩ = some (fcell k (d k) i)) ∧ ∀ k, k < 20 → (fdos.getD k (.plain 0)).At lo W (d k)
theorem Table.on {lo : Nat} {W W' : World} {g : Nat} {d : Nat → Value} (h : Table lo W g d) (hb : Below W.heap.size W W') : Table lo W' g d :=
  ⟨Nat.lt_of_lt_of_le h.1 hb.size, fun k hk i hi => (hb.cell (p := ⟨g, k * 5 + i, none⟩) h.1).trans (h.2.1 k hk i hi), fun k hk => (h.2.2 k hk).on hb⟩
theorem table_of {w W : World} {a0 a2 a6 a7 a8 a9 a10 a14 a15 a17 a19 : Value} (hD : Does w W [(a19, .one 97), (a17, .trim true true), (a15, .one 94), (a14, .trim false true), (a10, .ext (-1)), (a9, .ext 1), (a8, .trim true false), (a7, .one 85), (a6, .one 84), (a2, .one 77), (a0, .one 75)]) :
    Table w.heap.size (W.alloc (.cells #[.string ⟨#[97, 98, 115]⟩, .int .i64 1, .int .i64 1, .bool false, a0, .string ⟨#[99, 111, 97, 108, 101, 115, 99, 101]⟩, .int .i64 2, .int .i64 (-1), .bool true, .func (.func 76) #[] #[], .string ⟨#[104, 101, 120]⟩, .int .i64 1, .int .i64 1, .bool false, a2, .string ⟨#[105, 102, 110, 117, 108, 108]⟩, .int .i64 2, .int .i64 2, .bool true, .func (.func 76) #[] #[], .string ⟨#[105, 105, 102]⟩, .int .i64 3, .int .i64 3, .bool true, .func (.func 78) #[] #[], .string ⟨#[105, 110, 115, 116, 114]⟩, .int .i64 2, .int .i64 2, .bool false, .func (.func 80) #[] #[], .string ⟨#[108, 101, 110, 103, 116, 104]⟩, .int .i64 1, .int .i64 1, .bool false, a6, .string ⟨#[108, 111, 119, 101, 114]⟩, .int .i64 1, .int .i64 1, .bool false, a7, .string ⟨#[108, 116, 114, 105, 109]⟩, .int .i64 1, .int .i64 2, .bool false, a8, .string ⟨#[109, 97, 120]⟩, .int .i64 2, .int .i64 (-1), .bool false, a9, .string ⟨#[109, 105, 110]⟩, .int .i64 2, .int .i64 (-1), .bool false, a10, .string ⟨#[110, 117, 108, 108, 105, 102]⟩, .int .i64 2, .int .i64 2, .bool true, .func (.func 89) #[] #[], .string ⟨#[113, 117, 111, 116, 101]⟩, .int .i64 1, .int .i64 1, .bool true, .func (.func 91) #[] #[], .string ⟨#[114, 101, 112, 108, 97, 99, 101]⟩, .int .i64 3, .int .i64 3, .bool false, .func (.func 92) #[] #[], .string ⟨#[114, 116, 114, 105, 109]⟩, .int .i64 1, .int .i64 2, .bool false, a14, .string ⟨#[115, 105, 103, 110]⟩, .int .i64 1, .int .i64 1, .bool false, a15, .string ⟨#[115, 117, 98, 115, 116, 114]⟩, .int .i64 2, .int .i64 3, .bool false, .func (.func 95) #[] #[], .string ⟨#[116, 114, 105, 109]⟩, .int .i64 1, .int .i64 2, .bool false, a17, .string ⟨#[116, 121, 112, 101, 111, 102]⟩, .int .i64 1, .int .i64 1, .bool true, .func (.func 96) #[] #[], .string ⟨#[117, 112, 112, 101, 114]⟩, .int .i64 1, .int .i64 1, .bool false, a19] 56)) W.heap.size (fun k => match k with | 0 => a0 | 1 => .func (.func 76) #[] #[] | 2 => a2 | 3 => .func (.func 76) #[] #[] | 4 => .func (.func 78) #[] #[] | 5 => .func (.func 80) #[] #[] | 6 => a6 | 7 => a7 | 8 => a8 | 9 => a9 | 10 => a10 | 11 => .func (.func 89) #[] #[] | 12 => .func (.func 91) #[] #[] | 13 => .func (.func 92) #[] #[] | 14 => a14 | 15 => a15 | 16 => .func (.func 95) #[] #[] | 17 => a17 | 18 => .func (.func 96) #[] #[] | 19 => a19 | _ => undef) := by
  have hh := heap_new W (.cells #[.string ⟨#[97, 98, 115]⟩, .int .i64 1, .int .i64 1, .bool false, a0, .string ⟨#[99, 111, 97, 108, 101, 115, 99, 101]⟩, .int .i64 2, .int .i64 (-1), .bool true, .func (.func 76) #[] #[], .string ⟨#[104, 101, 120]⟩, .int .i64 1, .int .i64 1, .bool false, a2, .string ⟨#[105, 102, 110, 117, 108, 108]⟩, .int .i64 2, .int .i64 2, .bool true, .func (.func 76) #[] #[], .string ⟨#[105, 105, 102]⟩, .int .i64 3, .int .i64 3, .bool true, .func (.func 78) #[] #[], .string ⟨#[105, 110, 115, 116, 114]⟩, .int .i64 2, .int .i64 2, .bool false, .func (.func 80) #[] #[], .string ⟨#[108, 101, 110, 103, 116, 104]⟩, .int .i64 1, .int .i64 1, .bool false, a6, .string ⟨#[108, 111, 119, 101, 114]⟩, .int .i64 1, .int .i64 1, .bool false, a7, .string ⟨#[108, 116, 114, 105, 109]⟩, .int .i64 1, .int .i64 2, .bool false, a8, .string ⟨#[109, 97, 120]⟩, .int .i64 2, .int .i64 (-1), .bool false, a9, .string ⟨#[109, 105, 110]⟩, .int .i64 2, .int .i64 (-1), .bool false, a10, .string ⟨#[110, 117, 108, 108, 105, 102]⟩, .int .i64 2, .int .i64 2, .bool true, .func (.func 89) #[] #[], .string ⟨#[113, 117, 111, 116, 101]⟩, .int .i64 1, .int .i64 1, .bool true, .func (.func 91) #[] #[], .string ⟨#[114, 101, 112, 108, 97, 99, 101]⟩, .int .i64 3, .int .i64 3, .bool false, .func (.func 92) #[] #[], .string ⟨#[114, 116, 114, 105, 109]⟩, .int .i64 1, .int .i64 2, .bool false, a14, .string ⟨#[115, 105, 103, 110]⟩, .int .i64 1, .int .i64 1, .bool false, a15, .string ⟨#[115, 117, 98, 115, 116, 114]⟩, .int .i64 2, .int .i64 3, .bool false, .func (.func 95) #[] #[], .string ⟨#[116, 114, 105, 109]⟩, .int .i64 1, .int .i64 2, .bool false, a17, .string ⟨#[116, 121, 112, 101, 111, 102]⟩, .int .i64 1, .int .i64 1, .bool true, .func (.func 96) #[] #[], .string ⟨#[117, 112, 112, 101, 114]⟩, .int .i64 1, .int .i64 1, .bool false, a19] 56)
  have hD2 := hD.on (W' := W.alloc (.cells #[.string ⟨#[97, 98, 115]⟩, .int .i64 1, .int .i64 1, .bool false, a0, .string ⟨#[99, 111, 97, 108, 101, 115, 99, 101]⟩, .int .i64 2, .int .i64 (-1), .bool true, .func (.func 76) #[] #[], .string ⟨#[104, 101, 120]⟩, .int .i64 1, .int .i64 1, .bool false, a2, .string ⟨#[105, 102, 110, 117, 108, 108]⟩, .int .i64 2, .int .i64 2, .bool true, .func (.func 76) #[] #[], .string ⟨#[105, 105, 102]⟩, .int .i64 3, .int .i64 3, .bool true, .func (.func 78) #[] #[], .string ⟨#[105, 110, 115, 116, 114]⟩, .int .i64 2, .int .i64 2, .bool false, .func (.func 80) #[] #[], .string ⟨#[108, 101, 110, 103, 116, 104]⟩, .int .i64 1, .int .i64 1, .bool false, a6, .string ⟨#[108, 111, 119, 101, 114]⟩, .int .i64 1, .int .i64 1, .bool false, a7, .string ⟨#[108, 116, 114, 105, 109]⟩, .int .i64 1, .int .i64 2, .bool false, a8, .string ⟨#[109, 97, 120]⟩, .int .i64 2, .int .i64 (-1), .bool false, a9, .string ⟨#[109, 105, 110]⟩, .int .i64 2, .int .i64 (-1), .bool false, a10, .string ⟨#[110, 117, 108, 108, 105, 102]⟩, .int .i64 2, .int .i64 2, .bool true, .func (.func 89) #[] #[], .string ⟨#[113, 117, 111, 116, 101]⟩, .int .i64 1, .int .i64 1, .bool true, .func (.func 91) #[] #[], .string ⟨#[114, 101, 112, 108, 97, 99, 101]⟩, .int .i64 3, .int .i64 3, .bool false, .func (.func 92) #[] #[], .string ⟨#[114, 116, 114, 105, 109]⟩, .int .i64 1, .int .i64 2, .bool false, a14, .string ⟨#[115, 105, 103, 110]⟩, .int .i64 1, .int .i64 1, .bool false, a15, .string ⟨#[115, 117, 98, 115, 116, 114]⟩, .int .i64 2, .int .i64 3, .bool false, .func (.func 95) #[] #[], .string ⟨#[116, 114, 105, 109]⟩, .int .i64 1, .int .i64 2, .bool false, a17, .string ⟨#[116, 121, 112, 101, 111, 102]⟩, .int .i64 1, .int .i64 1, .bool true, .func (.func 96) #[] #[], .string ⟨#[117, 112, 112, 101, 114]⟩, .int .i64 1, .int .i64 1, .bool false, a19] 56)) ((Below.refl _ _).alloc (Nat.le_refl _) _)
  refine ⟨by simp, ?_, ?_⟩
  · clear hD hD2
    exact twenty (five (cell_of_row _ _ 0 _ _ _ hh) (cell_of_row _ _ 1 _ _ _ hh) (cell_of_row _ _ 2 _ _ _ hh) (cell_of_row _ _ 3 _ _ _ hh) (cell_of_row _ _ 4 _ _ _ hh)) (five (cell_of_row _ _ 5 _ _ _ hh) (cell_of_row _ _ 6 _ _ _ hh) (cell_of_row _ _ 7 _ _ _ hh) (cell_of_row _ _ 8 _ _ _ hh) (cell_of_row _ _ 9 _ _ _ hh)) (five (cell_of_row _ _ 10 _ _ _ hh) (cell_of_row _ _ 11 _ _ _ hh) (cell_of_row _ _ 12 _ _ _ hh) (cell_of_row _ _ 13 _ _ _ hh) (cell_of_row _ _ 14 _ _ _ hh)) (five (cell_of_row _ _ 15 _ _ _ hh) (cell_of_row _ _ 16 _ _ _ hh) (cell_of_row _ _ 17 _ _ _ hh) (cell_of_row _ _ 18 _ _ _ hh) (cell_of_row _ _ 19 _ _ _ hh)) (five (cell_of_row _ _ 20 _ _ _ hh) (cell_of_row _ _ 21 _ _ _ hh) (cell_of_row _ _ 22 _ _ _ hh) (cell_of_row _ _ 23 _ _ _ hh) (cell_of_row _ _ 24 _ _ _ hh)) (five (cell_of_row _ _ 25 _ _ _ hh) (cell_of_row _ _ 26 _ _ _ hh) (cell_of_row _ _ 27 _ _ _ hh) (cell_of_row _ _ 28 _ _ _ hh) (cell_of_row _ _ 29 _ _ _ hh)) (five (cell_of_row _ _ 30 _ _ _ hh) (cell_of_row _ _ 31 _ _ _ hh) (cell_of_row _ _ 32 _ _ _ hh) (cell_of_row _ _ 33 _ _ _ hh) (cell_of_row _ _ 34 _ _ _ hh)) (five (cell_of_row _ _ 35 _ _ _ hh) (cell_of_row _ _ 36 _ _ _ hh) (cell_of_row _ _ 37 _ _ _ hh) (cell_of_row _ _ 38 _ _ _ hh) (cell_of_row _ _ 39 _ _ _ hh)) (five (cell_of_row _ _ 40 _ _ _ hh) (cell_of_row _ _ 41 _ _ _ hh) (cell_of_row _ _ 42 _ _ _ hh) (cell_of_row _ _ 43 _ _ _ hh) (cell_of_row _ _ 44 _ _ _ hh)) (five (cell_of_row _ _ 45 _ _ _ hh) (cell_of_row _ _ 46 _ _ _ hh) (cell_of_row _ _ 47 _ _ _ hh) (cell_of_row _ _ 48 _ _ _ hh) (cell_of_row _ _ 49 _ _ _ hh)) (five (cell_of_row _ _ 50 _ _ _ hh) (cell_of_row _ _ 51 _ _ _ hh) (cell_of_row _ _ 52 _ _ _ hh) (cell_of_row _ _ 53 _ _ _ hh) (cell_of_row _ _ 54 _ _ _ hh)) (five (cell_of_row _ _ 55 _ _ _ hh) (cell_of_row _ _ 56 _ _ _ hh) (cell_of_row _ _ 57 _ _ _ hh) (cell_of_row _ _ 58 _ _ _ hh) (cell_of_row _ _ 59 _ _ _ hh)) (five (cell_of_row _ _ 60 _ _ _ hh) (cell_of_row _ _ 61 _ _ _ hh) (cell_of_row _ _ 62 _ _ _ hh) (cell_of_row _ _ 63 _ _ _ hh) (cell_of_row _ _ 64 _ _ _ hh)) (five (cell_of_row _ _ 65 _ _ _ hh) (cell_of_row _ _ 66 _ _ _ hh) (cell_of_row _ _ 67 _ _ _ hh) (cell_of_row _ _ 68 _ _ _ hh) (cell_of_row _ _ 69 _ _ _ hh)) (five (cell_of_row _ _ 70 _ _ _ hh) (cell_of_row _ _ 71 _ _ _ hh) (cell_of_row _ _ 72 _ _ _ hh) (cell_of_row _ _ 73 _ _ _ hh) (cell_of_row _ _ 74 _ _ _ hh)) (five (cell_of_row _ _ 75 _ _ _ hh) (cell_of_row _ _ 76 _ _ _ hh) (cell_of_row _ _ 77 _ _ _ hh) (cell_of_row _ _ 78 _ _ _ hh) (cell_of_row _ _ 79 _ _ _ hh)) (five (cell_of_row _ _ 80 _ _ _ hh) (cell_of_row _ _ 81 _ _ _ hh) (cell_of_row _ _ 82 _ _ _ hh) (cell_of_row _ _ 83 _ _ _ hh) (cell_of_row _ _ 84 _ _ _ hh)) (five (cell_of_row _ _ 85 _ _ _ hh) (cell_of_row _ _ 86 _ _ _ hh) (cell_of_row _ _ 87 _ _ _ hh) (cell_of_row _ _ 88 _ _ _ hh) (cell_of_row _ _ 89 _ _ _ hh)) (five (cell_of_row _ _ 90 _ _ _ hh) (cell_of_row _ _ 91 _ _ _ hh) (cell_of_row _ _ 92 _ _ _ hh) (cell_of_row _ _ 93 _ _ _ hh) (cell_of_row _ _ 94 _ _ _ hh)) (five (cell_of_row _ _ 95 _ _ _ hh) (cell_of_row _ _ 96 _ _ _ hh) (cell_of_row _ _ 97 _ _ _ hh) (cell_of_row _ _ 98 _ _ _ hh) (cell_of_row _ _ 99 _ _ _ hh))
  · clear hh hD
    have hm := hD2.2
    exact twenty (hm (a0, .one 75) (by simp)) rfl (hm (a2, .one 77) (by simp)) rfl rfl rfl (hm (a6, .one 84) (by simp)) (hm (a7, .one 85) (by simp)) (hm (a8, .trim true false) (by simp)) (hm (a9, .ext 1) (by simp)) (hm (a10, .ext (-1)) (by simp)) rfl rfl rfl (hm (a14, .trim false true) (by simp)) (hm (a15, .one 94) (by simp)) rfl (hm (a17, .trim true true) (by simp)) rfl (hm (a19, .one 97) (by simp))

set_option maxHeartbeats 4000000 in
theorem functions_any (w : World) : Calls Tryz.prog 41 #[] w fun e w' => ∃ g d, e = .returned (.slice (some ⟨g, 0, none⟩) 20 20) ∧ Table w.heap.size w' g d ∧ w.heap.size ≤ g ∧ Below w.heap.size w w' := by
  have hD := Does.refl w
  go_enter Tryz.func41, Tryz.ntmps41
  go_wp2_with (first
    | (go_at_call 74; refine (one_any _ _ _).mono ?_; rintro e w1 ⟨B, rfl, hx, hb⟩; have hD := hD.cons hb hx)
    | (go_at_call 87; refine (trimmer_any _ _ _ _).mono ?_; rintro e w1 ⟨B, C, rfl, hx, hb⟩; have hD := hD.cons hb hx)
    | (go_at_call 88; refine (extreme_any _ _).mono ?_; rintro e w1 ⟨B, rfl, hx, hb⟩; have hD := hD.cons hb hx))
  go_ret
  exact ⟨_, _, rfl, table_of hD, hD.1.size, hD.1.alloc hD.1.size _⟩

end Go.Proofs.YtmkgalcojoeniaaGreatDoor

namespace Go.Proofs.YtmkgalcojoeniaaGreatDoor
open Go.RowKit
attribute [local go_sem] run_store_fn run_store_nofn

/-- the first place, from k on, of n places, where p holds; -1: there is none -/
def firstFrom (p : Nat → Bool) : Nat → Nat → Int
  | 0, _ => -1
  | n + 1, k => if p k then (k : Int) else firstFrom p n (k + 1)
theorem firstFrom_yes {p : Nat → Bool} {n k : Nat} (h : p k = true) : firstFrom p (n + 1) k = (k : Int) := by simp [firstFrom, h]
theorem firstFrom_no {p : Nat → Bool} {n k : Nat} (h : p k = false) : firstFrom p (n + 1) k = firstFrom p n (k + 1) := by simp [firstFrom, h]
/-- is row k the function of this name with so many arguments? -/
def fits (nm : List UInt8) (n : Int) (k : Nat) : Bool :=
  (Val.texts (fname k).data.toList nm 1 == 0) && decide (fleasts.getD k 0 ≤ n) && (decide (fmosts.getD k 0 < 0) || decide (n ≤ fmosts.getD k 0))
def findAt (nm : List UInt8) (n : Int) : Int := firstFrom (fits nm n) 20 0
theorem fname_small (k : Nat) (hk : k < 20) : (fname k).size ≤ 1048576 := by
  have h : ∀ k, k < 20 → (fname k).size ≤ 8 := twenty (by decide) (by decide) (by decide) (by decide) (by decide) (by decide) (by decide) (by decide) (by decide) (by decide) (by decide) (by decide) (by decide) (by decide) (by decide) (by decide) (by decide) (by decide) (by decide) (by decide)
  have := h k hk
  omega

set_option maxHeartbeats 1000000 in
theorem find1_any (fn nm : ByteArray) (lo hi n : Int) (nu : Bool) (v : Value) (Bn Bm : Nat) (W : World) (hfn : fn.size ≤ 1048576) (hnm : nm.size ≤ 1048576) (h1 : Boxed W Bn 9 (.string nm)) (h2 : Boxed W Bm 3 (.int .i64 n)) (q r : Bool) (hq : Hid ((Val.texts fn.data.toList nm.data.toList 1 == 0) = q)) (hr : Hid ((q && decide (lo ≤ n) && (decide (hi < 0) || decide (n ≤ hi))) = r)) :
    Calls Tryz.prog 54 #[.agg #[.string fn, .int .i64 lo, .int .i64 hi, .bool nu, v], .pointer (some ⟨Bn, 0, none⟩), .pointer (some ⟨Bm, 0, none⟩)] W fun e w' => e = .returned (.bool r) ∧ Below W.heap.size W w' := by
  have cn := (Boxed.alloc h1 (.cells #[.string fn, .int .i64 lo, .int .i64 hi, .bool nu, v] 56)).cell
  have k1 := cell_of_row _ _ 1 _ _ _ (heap_new W (.cells #[.string fn, .int .i64 lo, .int .i64 hi, .bool nu, v] 56))
  have k2 := cell_of_row _ _ 2 _ _ _ (heap_new W (.cells #[.string fn, .int .i64 lo, .int .i64 hi, .bool nu, v] 56))
  have hz : W.heap.size < (W.alloc (.cells #[.string fn, .int .i64 lo, .int .i64 hi, .bool nu, v] 56)).heap.size := by simp
  have hm := Boxed.alloc h2 (.cells #[.string fn, .int .i64 lo, .int .i64 hi, .bool nu, v] 56)
  have hB0 : Below W.heap.size W (W.alloc (.cells #[.string fn, .int .i64 lo, .int .i64 hi, .bool nu, v] 56)) := (Below.refl _ _).alloc (Nat.le_refl _) _
  cases q with
  | false =>
    obtain rfl : r = false := by rw [← hr.out]; rfl
    go_enter Tryz.func54, Tryz.ntmps54
    go_wp2_with (go_at_call 55; refine (vequal_is _ _ _ _ hfn hnm _ hq).mono ?_; rintro e w1 ⟨rfl, hb1⟩)
    go_ret
    exact ⟨rfl, below_step hB0 (by simp) hb1⟩
  | true =>
    by_cases ha : lo ≤ n
    · by_cases hb : hi < 0
      · obtain rfl : r = true := by rw [← hr.out]; simp [ha, hb]
        have b1 : decide (n ≥ lo) = true := decide_eq_true ha
        have b2 : decide (hi < 0) = true := decide_eq_true hb
        go_enter Tryz.func54, Tryz.ntmps54
        go_wp2_with (go_at_call 55; refine (vequal_is _ _ _ _ hfn hnm _ hq).mono ?_; rintro e w1 ⟨rfl, hb1⟩; have d1 := (hb1.cell (p := ⟨W.heap.size, 1, none⟩) hz).trans k1; have d2 := (hb1.cell (p := ⟨W.heap.size, 2, none⟩) hz).trans k2; have dm := (boxed_on hm hb1).cell)
        go_ret
        exact ⟨rfl, below_step hB0 (by simp) hb1⟩
      · by_cases hc : n ≤ hi
        · obtain rfl : r = true := by rw [← hr.out]; simp [ha, hb, hc]
          have b1 : decide (n ≥ lo) = true := decide_eq_true ha
          have b2 : decide (hi < 0) = false := decide_eq_false hb
          have b3 : decide (n ≤ hi) = true := decide_eq_true hc
          go_enter Tryz.func54, Tryz.ntmps54
          go_wp2_with (go_at_call 55; refine (vequal_is _ _ _ _ hfn hnm _ hq).mono ?_; rintro e w1 ⟨rfl, hb1⟩; have d1 := (hb1.cell (p := ⟨W.heap.size, 1, none⟩) hz).trans k1; have d2 := (hb1.cell (p := ⟨W.heap.size, 2, none⟩) hz).trans k2; have dm := (boxed_on hm hb1).cell)
          go_ret
          exact ⟨rfl, below_step hB0 (by simp) hb1⟩
        · obtain rfl : r = false := by rw [← hr.out]; simp [hb, hc]
          have b1 : decide (n ≥ lo) = true := decide_eq_true ha
          have b2 : decide (hi < 0) = false := decide_eq_false hb
          have b3 : decide (n ≤ hi) = false := decide_eq_false hc
          go_enter Tryz.func54, Tryz.ntmps54
          go_wp2_with (go_at_call 55; refine (vequal_is _ _ _ _ hfn hnm _ hq).mono ?_; rintro e w1 ⟨rfl, hb1⟩; have d1 := (hb1.cell (p := ⟨W.heap.size, 1, none⟩) hz).trans k1; have d2 := (hb1.cell (p := ⟨W.heap.size, 2, none⟩) hz).trans k2; have dm := (boxed_on hm hb1).cell)
          go_ret
          exact ⟨rfl, below_step hB0 (by simp) hb1⟩
    · obtain rfl : r = false := by rw [← hr.out]; simp [ha]
      have b1 : decide (n ≥ lo) = false := decide_eq_false ha
      go_enter Tryz.func54, Tryz.ntmps54
      go_wp2_with (go_at_call 55; refine (vequal_is _ _ _ _ hfn hnm _ hq).mono ?_; rintro e w1 ⟨rfl, hb1⟩; have d1 := (hb1.cell (p := ⟨W.heap.size, 1, none⟩) hz).trans k1; have d2 := (hb1.cell (p := ⟨W.heap.size, 2, none⟩) hz).trans k2; have dm := (boxed_on hm hb1).cell)
      go_ret
      exact ⟨rfl, below_step hB0 (by simp) hb1⟩

/-- IndexFunc over the table, whatever the function asks of a row -/
theorem fidx_any (fid : Nat) (lb : Array Value) (eg : ∀ args w, (callFunc fid args).run Tryz.prog w = .ok (.enter fid args) w) (p : Nat → Bool) (g : Nat) (d : Nat → Value) (c : Nat) (lo : Nat) (w : World) (hT : Table lo w g d)
    (hp : ∀ W k, k < 20 → Below w.heap.size w W → Calls Tryz.prog fid (#[.agg #[.string (fname k), .int .i64 (fleasts.getD k 0), .int .i64 (fmosts.getD k 0), .bool (fnullss.getD k false), d k]] ++ lb) W fun e w' => e = .returned (.bool (p k)) ∧ Below W.heap.size W w') :
    Calls Tryz.prog 53 #[.slice (some ⟨g, 0, none⟩) 20 c, .func (.func fid) #[] lb] w fun e w' => e = .returned (.int .i64 (firstFrom p 20 0)) ∧ Below w.heap.size w w' := by
  go_enter Tryz.func53, Tryz.ntmps53
  go_wp2
  go_loopw [8] (fun iv wr => ∃ k : Nat, iv = .int .i64 (k : Int) ∧ k ≤ 20 ∧ Hid (firstFrom p (20 - k) k = firstFrom p 20 0) ∧ Below w.heap.size w wr) (fun iv _ => 20 - (Go.RowKit.intOf iv).toNat)
  case atStart => exact ⟨0, by go_num, by omega, Lib.hid rfl, Below.refl _ _⟩
  case round =>
    obtain ⟨k, rfl, hk, hF, hB⟩ := hrel
    by_cases hlt : k < 20
    · have hTr := hT.on hB
      have c0 := hTr.2.1 k hlt 0 (by omega)
      have c1 := hTr.2.1 k hlt 1 (by omega)
      have c2 := hTr.2.1 k hlt 2 (by omega)
      have c3 := hTr.2.1 k hlt 3 (by omega)
      have c4 := hTr.2.1 k hlt 4 (by omega)
      simp only [fcell, Nat.add_zero] at c0 c1 c2 c3 c4
      have hc := hp wr k hlt hB
      have b1 : decide ((k : Int) < 20) = true := by simp; omega
      have i0 : (0 : Int) ≤ (k : Int) := by omega
      have i1 : (k : Int) < 20 := by omega
      obtain ⟨m, hm⟩ : ∃ m, 20 - k = m + 1 := ⟨20 - k - 1, by omega⟩
      have hm2 : 20 - (k + 1) = m := by omega
      rw [hm] at hF
      have hsz := hB.size
      clear hTr hp hT
      generalize fname k = s0 at *
      generalize fleasts.getD k 0 = s1 at *
      generalize fmosts.getD k 0 = s2 at *
      generalize fnullss.getD k false = s3 at *
      generalize d k = s4 at *
      cases hq : p k with
      | true =>
        have hF' : firstFrom p 20 0 = (k : Int) := by rw [← hF.out, firstFrom_yes hq]
        rw [hq] at hc
        replace hF' := Lib.hid hF'
        clear hF hq hm hm2
        go_wp2_with (go_at_fn fid; refine hc.mono ?_; rintro e w1 ⟨rfl, hb1⟩)
        go_ret
        exact ⟨by rw [hF'.out]; rfl, hB.trans (hb1.mono hsz)⟩
      | false =>
        have hF' : firstFrom p (20 - (k + 1)) (k + 1) = firstFrom p 20 0 := by rw [← hF.out, firstFrom_no hq, hm2]
        rw [hq] at hc
        replace hF' := Lib.hid hF'
        clear hF hq hm hm2
        go_wp2_with (go_at_fn fid; refine hc.mono ?_; rintro e w1 ⟨rfl, hb1⟩)
        go_roundw
        case rel => exact ⟨k + 1, by go_num, by omega, hF', hB.trans (hb1.mono hsz)⟩
        case measure => simp [Go.RowKit.intOf]; omega
    · obtain rfl : k = 20 := by omega
      go_wp2
      go_ret
      exact ⟨by rw [← hF.out]; rfl, hB⟩

theorem firstFrom_range (p : Nat → Bool) (n k : Nat) : firstFrom p n k = -1 ∨ ∃ j : Nat, firstFrom p n k = (j : Int) ∧ k ≤ j ∧ j < k + n ∧ p j = true := by
  induction n generalizing k with
  | zero => exact .inl rfl
  | succ n ih =>
    cases h : p k with
    | true => exact .inr ⟨k, firstFrom_yes h, by omega, by omega, h⟩
    | false =>
      rw [firstFrom_no h]
      rcases ih (k + 1) with h2 | ⟨j, h2, h3, h4, h5⟩
      · exact .inl h2
      · exact .inr ⟨j, h2, by omega, by omega, h5⟩

theorem cells5 {w : World} {g : Nat} {t : TypeId} {a b c d e : Value} (h : w.heap[g]? = some (.cells #[a, b, c, d, e] t (0, 0))) :
    w.cell? ⟨g, 0, none⟩ = some a ∧ w.cell? ⟨g, 1, none⟩ = some b ∧ w.cell? ⟨g, 2, none⟩ = some c ∧ w.cell? ⟨g, 3, none⟩ = some d ∧ w.cell? ⟨g, 4, none⟩ = some e ∧ w.frozen? ⟨g, 0, none⟩ = false ∧ w.frozen? ⟨g, 1, none⟩ = false ∧ w.frozen? ⟨g, 2, none⟩ = false ∧ w.frozen? ⟨g, 3, none⟩ = false ∧ w.frozen? ⟨g, 4, none⟩ = false := by
  refine ⟨cell_of_row w g 0 _ t _ h, cell_of_row w g 1 _ t _ h, cell_of_row w g 2 _ t _ h, cell_of_row w g 3 _ t _ h, cell_of_row w g 4 _ t _ h, ?_, ?_, ?_, ?_, ?_⟩ <;> simp [World.frozen?, h]
theorem below_set5 {B : Nat} {w W : World} {g : Nat} {a b c d e : Value} (h : Below B w W) (hg : B ≤ g) : Below B w (((((W.setCell ⟨g, 0, none⟩ a).setCell ⟨g, 1, none⟩ b).setCell ⟨g, 2, none⟩ c).setCell ⟨g, 3, none⟩ d).setCell ⟨g, 4, none⟩ e) :=
  ((((h.setCell hg _).setCell hg _).setCell hg _).setCell hg _).setCell hg _

set_option maxHeartbeats 1000000 in
/-- find where there is none -/
theorem find_none (nm : ByteArray) (n : Int) (w : World) (hnm : nm.size ≤ 1048576) (hF : Hid (findAt nm.data.toList n = -1)) :
    Calls Tryz.prog 27 #[.string nm, .int .i64 n] w fun e w' => e = .returned (.tuple #[.agg #[.string ⟨#[]⟩, .int .i64 0, .int .i64 0, .bool false, .nilFunc], .bool false]) ∧ Below w.heap.size w w' := by
  have eg : ∀ args w, (callFunc 54 args).run Tryz.prog w = .ok (.enter 54 args) w := enters_of Tryz.func54 (by kernel_rfl) rfl
  obtain ⟨W0, hW0⟩ : ∃ W0, ((w.alloc (.cells #[.string nm] 9)).alloc (.cells #[.int .i64 n] 3)).alloc (.cells #[.string ⟨#[]⟩, .int .i64 0, .int .i64 0, .bool false, .nilFunc] 56) = W0 := ⟨_, rfl⟩
  have h1 : Boxed W0 w.heap.size 9 (.string nm) := by rw [← hW0]; exact ((Boxed.new _ _ _).alloc _).alloc _
  have h2 : Boxed W0 (w.heap.size + 1) 3 (.int .i64 n) := by rw [← hW0]; have := Boxed.new (w.alloc (.cells #[.string nm] 9)) 3 (.int .i64 n); rw [World.size_alloc] at this; exact this.alloc _
  have h3 : W0.heap[w.heap.size + 1 + 1]? = some (.cells #[.string ⟨#[]⟩, .int .i64 0, .int .i64 0, .bool false, .nilFunc] 56) := by
    have := heap_new ((w.alloc (.cells #[.string nm] 9)).alloc (.cells #[.int .i64 n] 3)) (.cells #[.string ⟨#[]⟩, .int .i64 0, .int .i64 0, .bool false, .nilFunc] 56)
    rw [hW0, World.size_alloc, World.size_alloc] at this; exact this
  have hB0 : Below w.heap.size w W0 := by rw [← hW0]; exact (((Below.refl _ _).alloc (Nat.le_refl _) _).alloc (by simp) _).alloc (by simp; omega) _
  have hz0 : W0.heap.size = w.heap.size + 3 := by rw [← hW0]; simp
  go_enter Tryz.func27, Tryz.ntmps27
  go_wp2_with fail
  refine (functions_any _).mono ?_
  rintro e w1 ⟨g, d, rfl, hT, hg, hb1⟩
  have k1 := boxed_on h1 hb1
  have k2 := boxed_on h2 hb1
  have k3 := (hb1.block (w.heap.size + 1 + 1) (by omega)).trans h3
  have hz1 := hb1.size
  go_wp2_with (go_at_call 53; refine (fidx_any 54 #[.pointer (some ⟨w.heap.size, 0, none⟩), .pointer (some ⟨w.heap.size + 1, 0, none⟩)] eg (fits nm.data.toList n) g d _ _ w1 hT (fun W k hk hBW => find1_any _ _ _ _ _ _ _ _ _ W (fname_small k hk) hnm (boxed_on k1 hBW) (boxed_on k2 hBW) _ _ (Lib.hid rfl) (Lib.hid rfl))).mono ?_; rintro e w2 ⟨rfl, hb2⟩; rw [show firstFrom (fits nm.data.toList n) 20 0 = -1 from hF.out]; obtain ⟨q0, q1, q2, q3, q4, f0, f1, f2, f3, f4⟩ := cells5 ((hb2.block (w.heap.size + 1 + 1) (by omega)).trans k3))
  refine bodyPost_ret (v := .tuple #[.agg #[.string ⟨#[]⟩, .int .i64 0, .int .i64 0, .bool false, .nilFunc], .bool false]) (by simp only [results, Tryz.results27]; go_simp) rfl ⟨rfl, ?_⟩
  exact below_set5 ((hB0.trans (hb1.mono (by omega))).trans (hb2.mono (by omega))) (by omega)

theorem at_one {lo : Nat} {W : World} {v : Value} {d : DoF} (h : d.At lo W v) : v.oneCell' = true := by
  cases d with
  | plain f => rw [h]; rfl
  | one f => obtain ⟨B, e, _, _⟩ := h; rw [e]; rfl
  | trim l r => obtain ⟨B, C, e, _, _⟩ := h; rw [e]; rfl
  | ext n => obtain ⟨B, e, _, _⟩ := h; rw [e]; rfl

set_option maxHeartbeats 1000000 in
/-- find where there is one -/
theorem find_some (k : Nat) (hk : k < 20) (nm : ByteArray) (n : Int) (w : World) (hnm : nm.size ≤ 1048576) (hF : Hid (findAt nm.data.toList n = (k : Int))) :
    Calls Tryz.prog 27 #[.string nm, .int .i64 n] w fun e w' => ∃ v, e = .returned (.tuple #[.agg #[.string (fname k), .int .i64 (fleasts.getD k 0), .int .i64 (fmosts.getD k 0), .bool (fnullss.getD k false), v], .bool true]) ∧ (fdos.getD k (.plain 0)).At w.heap.size w' v ∧ Below w.heap.size w w' := by
  have eg : ∀ args w, (callFunc 54 args).run Tryz.prog w = .ok (.enter 54 args) w := enters_of Tryz.func54 (by kernel_rfl) rfl
  obtain ⟨W0, hW0⟩ : ∃ W0, ((w.alloc (.cells #[.string nm] 9)).alloc (.cells #[.int .i64 n] 3)).alloc (.cells #[.string ⟨#[]⟩, .int .i64 0, .int .i64 0, .bool false, .nilFunc] 56) = W0 := ⟨_, rfl⟩
  have h1 : Boxed W0 w.heap.size 9 (.string nm) := by rw [← hW0]; exact ((Boxed.new _ _ _).alloc _).alloc _
  have h2 : Boxed W0 (w.heap.size + 1) 3 (.int .i64 n) := by rw [← hW0]; have := Boxed.new (w.alloc (.cells #[.string nm] 9)) 3 (.int .i64 n); rw [World.size_alloc] at this; exact this.alloc _
  have h3 : W0.heap[w.heap.size + 1 + 1]? = some (.cells #[.string ⟨#[]⟩, .int .i64 0, .int .i64 0, .bool false, .nilFunc] 56) := by
    have := heap_new ((w.alloc (.cells #[.string nm] 9)).alloc (.cells #[.int .i64 n] 3)) (.cells #[.string ⟨#[]⟩, .int .i64 0, .int .i64 0, .bool false, .nilFunc] 56)
    rw [hW0, World.size_alloc, World.size_alloc] at this; exact this
  have hB0 : Below w.heap.size w W0 := by rw [← hW0]; exact (((Below.refl _ _).alloc (Nat.le_refl _) _).alloc (by simp) _).alloc (by simp; omega) _
  have hz0 : W0.heap.size = w.heap.size + 3 := by rw [← hW0]; simp
  have b0 : decide ((k : Int) < 0) = false := decide_eq_false (by omega)
  have i0 : (0 : Int) ≤ (k : Int) := by omega
  have i1 : (k : Int) < 20 := by omega
  go_enter Tryz.func27, Tryz.ntmps27
  go_wp2_with fail
  refine (functions_any _).mono ?_
  rintro e w1 ⟨g, d, rfl, hT, hg, hb1⟩
  have k1 := boxed_on h1 hb1
  have k2 := boxed_on h2 hb1
  have k3 := (hb1.block (w.heap.size + 1 + 1) (by omega)).trans h3
  have hz1 := hb1.size
  go_wp2_with (go_at_call 53; refine (fidx_any 54 #[.pointer (some ⟨w.heap.size, 0, none⟩), .pointer (some ⟨w.heap.size + 1, 0, none⟩)] eg (fits nm.data.toList n) g d _ _ w1 hT (fun W k hk hBW => find1_any _ _ _ _ _ _ _ _ _ W (fname_small k hk) hnm (boxed_on k1 hBW) (boxed_on k2 hBW) _ _ (Lib.hid rfl) (Lib.hid rfl))).mono ?_; rintro e w2 ⟨rfl, hb2⟩; rw [show firstFrom (fits nm.data.toList n) 20 0 = (k : Int) from hF.out]; obtain ⟨q0, q1, q2, q3, q4, f0, f1, f2, f3, f4⟩ := cells5 ((hb2.block (w.heap.size + 1 + 1) (by omega)).trans k3); have hT2 := hT.on hb2; have c0 := hT2.2.1 k hk 0 (by omega); have c1 := hT2.2.1 k hk 1 (by omega); have c2 := hT2.2.1 k hk 2 (by omega); have c3 := hT2.2.1 k hk 3 (by omega); have c4 := hT2.2.1 k hk 4 (by omega); have c5 := hT2.2.2 k hk; simp only [fcell, Nat.add_zero] at c0 c1 c2 c3 c4; have hone : ∀ (a : Addr) (m : Mode) (W : World), (store a (d k) m).run Tryz.prog W = stored Tryz.prog W a (d k) m := fun a m W => run_store _ W a _ m (at_one c5))
  have hb3 : Below w.heap.size w w2 := (hB0.trans (hb1.mono (by omega))).trans (hb2.mono (by omega))
  refine bodyPost_ret (v := .tuple #[.agg #[.string (fname k), .int .i64 (fleasts.getD k 0), .int .i64 (fmosts.getD k 0), .bool (fnullss.getD k false), d k], .bool true]) (by simp only [results, Tryz.results27]; go_simp) rfl ⟨_, rfl, ?_, below_set5 hb3 (by omega)⟩
  exact DoF.At.low (lo := W0.heap.size) (DoF.At.set (DoF.At.set (DoF.At.set (DoF.At.set (DoF.At.set c5 _ _ (by simp; omega)) _ _ (by simp; omega)) _ _ (by simp; omega)) _ _ (by simp; omega)) _ _ (by simp; omega)) (by omega)

end Go.Proofs.YtmkgalcojoeniaaGreatDoor

