import Derived.Test.YtjmnhilkgjfllaaGreatDoorEvC
import Derived.Laws.IdiomCopy
set_option linter.unusedVariables false
set_option linter.unusedSimpArgs false
namespace Ev
open Go

/-! ### lists side by side -/
inductive All2 {α β : Type} (R : α → β → Prop) : List α → List β → Prop
  | nil : All2 R [] []
  | cons {a b l r} : R a b → All2 R l r → All2 R (a :: l) (b :: r)
namespace All2
variable {α β : Type} {R R' : α → β → Prop}
theorem length {l : List α} {r : List β} (h : All2 R l r) : l.length = r.length := by
  induction h with
  | nil => rfl
  | cons _ _ ih => simp [ih]
theorem mono {l : List α} {r : List β} (hm : ∀ a b, R a b → R' a b) (h : All2 R l r) : All2 R' l r := by
  induction h with
  | nil => exact .nil
  | cons h _ ih => exact .cons (hm _ _ h) ih
theorem get {l : List α} {r : List β} (h : All2 R l r) : ∀ {i : Nat} {a : α}, l[i]? = some a → ∃ b, r[i]? = some b ∧ R a b := by
  induction h with
  | nil => intro i a h; simp at h
  | cons h _ ih =>
    intro i a hi
    cases i with
    | zero => simp at hi; subst hi; exact ⟨_, by simp, h⟩
    | succ i => simp at hi ⊢; exact ih hi
theorem get' {l : List α} {r : List β} (h : All2 R l r) : ∀ {i : Nat} {b : β}, r[i]? = some b → ∃ a, l[i]? = some a ∧ R a b := by
  induction h with
  | nil => intro i a h; simp at h
  | cons h _ ih =>
    intro i a hi
    cases i with
    | zero => simp at hi; subst hi; exact ⟨_, by simp, h⟩
    | succ i => simp at hi ⊢; exact ih hi
theorem of_get : ∀ {l : List α} {r : List β}, l.length = r.length → (∀ (i : Nat) a b, l[i]? = some a → r[i]? = some b → R a b) → All2 R l r
  | [], [], _, _ => .nil
  | [], _ :: _, h, _ => by simp at h
  | _ :: _, [], h, _ => by simp at h
  | a :: l, b :: r, h, hg => .cons (hg 0 a b rfl rfl) (of_get (by simpa using h) fun i x y hx hy => hg (i + 1) x y (by simpa using hx) (by simpa using hy))
theorem append {l l' : List α} {r r' : List β} (h : All2 R l r) (h' : All2 R l' r') : All2 R (l ++ l') (r ++ r') := by
  induction h with
  | nil => exact h'
  | cons h _ ih => exact .cons h ih
theorem take {l : List α} {r : List β} (h : All2 R l r) : ∀ n, All2 R (l.take n) (r.take n) := by
  induction h with
  | nil => intro n; simp; exact .nil
  | cons h _ ih => intro n; cases n with
    | zero => exact .nil
    | succ n => exact .cons h (ih n)
theorem drop {l : List α} {r : List β} (h : All2 R l r) : ∀ n, All2 R (l.drop n) (r.drop n) := by
  induction h with
  | nil => intro n; simp; exact .nil
  | cons h h' ih => intro n; cases n with
    | zero => exact .cons h h'
    | succ n => exact ih n
end All2

/-! ### places, values -/
structure Place where
  c : Nat
  o : Nat
  tot : Nat
  kn : Nat
abbrev Mp := Nat → Option Place
def Mp.put (ρ : Mp) (b : Nat) (p : Place) : Mp := fun x => if x = b then some p else ρ x
def Mp.le (ρ ρ' : Mp) : Prop := ∀ b p, ρ b = some p → ρ' b = some p

structure SlOk (p : Place) (o n : Nat) (cap : Option Nat) (z : Nat) (ad : Addr) (cp : Nat) : Prop where
  zpos : 0 < z
  le : n ≤ cp
  ex : ∀ k, cap = some k → cp = k ∧ o + k * z ≤ p.kn ∧ ad = ⟨p.c, p.o + o, none⟩
  op : cap = none → p.kn ≤ o + cp * z ∧ (ad = ⟨p.c, p.o + o, none⟩ ∨ cp = 0)
  tot : p.o + o + cp * z ≤ p.tot
  kn : o + n * z ≤ p.kn

def PtrRel (ρ : Mp) (x : Nat × Nat) (v : Value) : Prop := ∃ q, ρ x.1 = some q ∧ v = .pointer (some ⟨q.c, q.o + x.2, none⟩)
def CRel (ρ : Mp) : C → Value → Prop
  | .bool b, v => v = .bool b
  | .int k n, v => v = .int k n
  | .str s, v => ∃ bs, v = .string bs ∧ s = Str.of bs
  | .nilp, v => v = .pointer none
  | .ptr b o, v => PtrRel ρ (b, o) v
  | .nils, v => v = .slice none 0 0
  | .sl b o n cap z, v => ∃ p ad cp, ρ b = some p ∧ v = .slice (some ad) n cp ∧ SlOk p o n cap z ad cp
  | .nilm, v => v = .map none
  | .map r, v => ∃ p, ρ r = some p ∧ v = .map (some p.c)
  | .fn f l, v => ∃ vs : Array Value, v = .func (.func f) #[] vs ∧ All2 (PtrRel ρ) l vs.toList
  | .nilf, v => v = .nilFunc
  | .ifc t c, v => ∃ x, v = .iface t x ∧ CRel ρ c x
  | .ife t, v => v = .iface t (.agg #[])
  | .nili, v => v = .nilIface
  | .unk, v => v.oneCell' = true ∧ v.cells = #[v]
  | .geq k, v => ∃ m : Int, v = .int .i64 m ∧ (k : Int) ≤ m
def LRel (ρ : Mp) : List C → List Value → Prop := All2 (CRel ρ)
def WRel (ρ : Mp) : W → Value → Prop
  | .c x, v => CRel ρ x v
  | .agg l, v => ∃ a : Array Value, v = .agg a ∧ LRel ρ l a.toList
def VRel (ρ : Mp) : V → Value → Prop
  | .w x, v => WRel ρ x v
  | .tup l, v => ∃ a : Array Value, v = .tuple a ∧ All2 (WRel ρ) l a.toList
  | .un, _ => True

theorem PtrRel.mono {ρ ρ' : Mp} (h : ρ.le ρ') {x v} (hr : PtrRel ρ x v) : PtrRel ρ' x v :=
  let ⟨q, h1, h2⟩ := hr; ⟨q, h _ _ h1, h2⟩
theorem CRel.mono {ρ ρ' : Mp} (h : ρ.le ρ') : ∀ {c : C} {v : Value}, CRel ρ c v → CRel ρ' c v := by
  intro c
  induction c with
  | ptr b o => exact fun hr => PtrRel.mono h hr
  | sl b o n cap z => exact fun ⟨p, ad, cp, h1, h2⟩ => ⟨p, ad, cp, h _ _ h1, h2⟩
  | map r => exact fun ⟨p, h1, h2⟩ => ⟨p, h _ _ h1, h2⟩
  | fn f l => exact fun ⟨vs, h1, h2⟩ => ⟨vs, h1, h2.mono fun _ _ => PtrRel.mono h⟩
  | ifc t c ih => exact fun ⟨x, h1, h2⟩ => ⟨x, h1, ih h2⟩
  | _ => exact fun h => h
theorem LRel.mono {ρ ρ' : Mp} (h : ρ.le ρ') {l r} (hr : LRel ρ l r) : LRel ρ' l r := All2.mono (fun _ _ => CRel.mono h) hr
theorem WRel.mono {ρ ρ' : Mp} (h : ρ.le ρ') {w v} (hr : WRel ρ w v) : WRel ρ' w v := by
  cases w with
  | c x => exact CRel.mono h hr
  | agg l => exact let ⟨a, h1, h2⟩ := hr; ⟨a, h1, h2.mono h⟩
theorem VRel.mono {ρ ρ' : Mp} (h : ρ.le ρ') {w v} (hr : VRel ρ w v) : VRel ρ' w v := by
  cases w with
  | w x => exact WRel.mono h hr
  | tup l => exact let ⟨a, h1, h2⟩ := hr; ⟨a, h1, h2.mono fun _ _ => WRel.mono h⟩
  | un => trivial

theorem CRel.one {ρ : Mp} {c : C} {v : Value} (h : CRel ρ c v) : v.oneCell' = true ∧ v.cells = #[v] := by
  cases c <;> simp only [CRel, PtrRel] at h
  all_goals first
    | (subst h; exact ⟨rfl, rfl⟩)
    | (obtain ⟨_, rfl, _⟩ := h; exact ⟨rfl, rfl⟩)
    | (obtain ⟨_, _, rfl⟩ := h; exact ⟨rfl, rfl⟩)
    | (obtain ⟨_, _, _, _, rfl, _⟩ := h; exact ⟨rfl, rfl⟩)
    | exact h
theorem LRel.one {ρ : Mp} {l : List C} {r : List Value} (h : LRel ρ l r) : ∀ v ∈ r, v.oneCell' = true := by
  induction h with
  | nil => simp
  | cons h _ ih => intro v hv
                   rcases List.mem_cons.1 hv with rfl | hv
                   · exact h.one.1
                   · exact ih v hv
theorem WRel.cells {ρ : Mp} {w : W} {v : Value} (h : WRel ρ w v) : LRel ρ w.cells v.cells.toList := by
  cases w with
  | c x => rw [(CRel.one h).2]; exact .cons h .nil
  | agg l => obtain ⟨a, rfl, h2⟩ := h; exact h2

/-! ### blocks -/
def EntRel (ρ : Mp) (x : C × W) (e : MapEntry) : Prop := CRel ρ x.1 e.key ∧ WRel ρ x.2 e.val
structure RowRel (ρ : Mp) (p : Place) (r : Row) (arr : Array Value) (fz : Nat × Nat) : Prop where
  tot : arr.size = p.tot
  kn : r.n = p.kn
  le : p.o + r.n ≤ p.tot
  sh : r.sh ≤ r.n
  cell : ∀ i x, i < r.n → r.q.get i = some x → ∃ v, arr[p.o + i]? = some v ∧ CRel ρ x v
  free : r.leaf = true → ∀ j, p.o ≤ j → j < p.tot → ¬ (fz.1 ≤ j ∧ j < fz.2)
  mark : r.leaf = true → r.anc = [] → ¬ (fz.1 ≤ p.tot ∧ p.tot < fz.2)
def BlkRel (ρ : Mp) (p : Place) : Blk → Obj → Prop
  | .row r, o => ∃ arr e fz, o = .cells arr e fz ∧ RowRel ρ p r arr fz
  | .map es, o => ∃ arr clk, o = .map arr clk ∧ All2 (EntRel ρ) es arr.toList
  | .iter s i, o => ∃ bs, o = .stringIter bs i ∧ s = Str.of bs ∧ p.o = 0
  | .dead, _ => True
/-- may it change? -/
def wr : Blk → Bool
  | .row r => r.leaf
  | .map _ => true
  | .iter _ _ => true
  | .dead => false
def alive : Blk → Bool
  | .dead => false
  | _ => true
def Share (x : Blk) (p : Place) (b' : Nat) (x' : Blk) (p' : Place) : Prop :=
  ∃ r r', x = .row r ∧ x' = .row r' ∧ r'.leaf = false ∧ p'.o + r'.n ≤ p.o + r.sh ∧ b' ∈ r.anc

structure HRel (ρ : Mp) (look : Look) (nx : Nat) (H : Array Obj) : Prop where
  dom : ∀ b p, ρ b = some p → b < nx
  blk : ∀ b x, look b = some x → alive x = true → ∃ p o, ρ b = some p ∧ H[p.c]? = some o ∧ BlkRel ρ p x o
  apart : ∀ b x b' x' p p', look b = some x → wr x = true → look b' = some x' → alive x' = true → b' ≠ b → ρ b = some p → ρ b' = some p' → p.c = p'.c → Share x p b' x' p'

/-- what is looked at is there, where its place is known -/
def Sees (ρ : Mp) (look : Look) (H : Array Obj) : Prop := ∀ b x p, look b = some x → alive x = true → ρ b = some p → ∃ o, H[p.c]? = some o ∧ BlkRel ρ p x o
theorem HRel.sees {ρ : Mp} {look : Look} {nx : Nat} {H : Array Obj} (h : HRel ρ look nx H) : Sees ρ look H := fun b x p hb ha hp => by
  obtain ⟨q, o, g1, g2, g3⟩ := h.blk b x hb ha
  rw [hp] at g1; cases g1; exact ⟨o, g2, g3⟩

theorem BlkRel.mono {ρ ρ' : Mp} (h : ρ.le ρ') {p x o} (hr : BlkRel ρ p x o) : BlkRel ρ' p x o := by
  cases x with
  | row r =>
    obtain ⟨arr, e, fz, h1, h2⟩ := hr
    exact ⟨arr, e, fz, h1, h2.tot, h2.kn, h2.le, h2.sh, fun i x hi hx => let ⟨v, a, b⟩ := h2.cell i x hi hx; ⟨v, a, b.mono h⟩, h2.free, h2.mark⟩
  | map es => obtain ⟨arr, clk, h1, h2⟩ := hr; exact ⟨arr, clk, h1, h2.mono fun _ _ ⟨a, b⟩ => ⟨a.mono h, b.mono h⟩⟩
  | iter s i => exact hr
  | dead => trivial

theorem Mp.le_put {ρ : Mp} {b : Nat} {p : Place} (h : ρ b = none) : ρ.le (ρ.put b p) := fun x q hx => by
  unfold Mp.put; split
  · rename_i e; rw [e, h] at hx; cases hx
  · exact hx
theorem Mp.le_refl (ρ : Mp) : ρ.le ρ := fun _ _ h => h
theorem Mp.le_trans {a b c : Mp} (h : a.le b) (h' : b.le c) : a.le c := fun x p hx => h' x p (h x p hx)

/-- the outside world and what was printed stay -/
def Same (w w' : World) : Prop := w'.os = w.os ∧ w'.output = w.output
theorem Same.refl (w : World) : Same w w := ⟨rfl, rfl⟩
theorem Same.trans {a b c : World} (h : Same a b) (h' : Same b c) : Same a c := ⟨h'.1.trans h.1, h'.2.trans h.2⟩
/-! ### what a step leaves -/
structure Post (ρ : Mp) (s : St) (H : Array Obj) (ρ' : Mp) (s' : St) (H' : Array Obj) : Prop where
  ext : ∀ b, b < s.nx → ρ' b = ρ b
  nx : s.nx ≤ s'.nx
  rel : HRel ρ' s'.h.get s'.nx H'
  sz : H.size ≤ H'.size
  frame : ∀ c, c < H.size → (∀ b x p, s.h.get b = some x → wr x = true → ρ b = some p → p.c ≠ c) → H'[c]? = H[c]?
  wrs : ∀ b x p, s'.h.get b = some x → wr x = true → ρ' b = some p → p.c < H.size → ∃ b0 x0 p0, s.h.get b0 = some x0 ∧ wr x0 = true ∧ ρ b0 = some p0 ∧ p0.c = p.c
  alv : ∀ b x p, s'.h.get b = some x → alive x = true → ρ' b = some p → p.c < H.size → ∃ b0 x0 p0, s.h.get b0 = some x0 ∧ alive x0 = true ∧ ρ b0 = some p0 ∧ p0.c = p.c

theorem Post.refl {ρ : Mp} {s : St} {H : Array Obj} (h : HRel ρ s.h.get s.nx H) : Post ρ s H ρ s H :=
  ⟨fun _ _ => rfl, Nat.le_refl _, h, Nat.le_refl _, fun _ _ _ => rfl, fun b x p h1 h2 h3 _ => ⟨b, x, p, h1, h2, h3, rfl⟩, fun b x p h1 h2 h3 _ => ⟨b, x, p, h1, h2, h3, rfl⟩⟩
theorem Post.le {ρ ρ' : Mp} {s s' : St} {H H' : Array Obj} (h : HRel ρ s.h.get s.nx H) (hp : Post ρ s H ρ' s' H') : ρ.le ρ' :=
  fun b p hb => by rw [hp.ext b (h.dom b p hb)]; exact hb
theorem Post.trans {ρ ρ1 ρ2 : Mp} {s s1 s2 : St} {H H1 H2 : Array Obj} (h1 : Post ρ s H ρ1 s1 H1) (h2 : Post ρ1 s1 H1 ρ2 s2 H2) : Post ρ s H ρ2 s2 H2 where
  ext b hb := by rw [h2.ext b (Nat.lt_of_lt_of_le hb h1.nx), h1.ext b hb]
  nx := Nat.le_trans h1.nx h2.nx
  rel := h2.rel
  sz := Nat.le_trans h1.sz h2.sz
  frame c hc hn := by
    rw [h2.frame c (Nat.lt_of_lt_of_le hc h1.sz) ?_, h1.frame c hc hn]
    intro b x p hb hw hp e
    obtain ⟨b0, x0, p0, g1, g2, g3, g4⟩ := h1.wrs b x p hb hw hp (by omega)
    exact hn b0 x0 p0 g1 g2 g3 (by omega)
  wrs b x p hb hw hp hc := by
    obtain ⟨b1, x1, p1, g1, g2, g3, g4⟩ := h2.wrs b x p hb hw hp (Nat.lt_of_lt_of_le hc h1.sz)
    obtain ⟨b0, x0, p0, k1, k2, k3, k4⟩ := h1.wrs b1 x1 p1 g1 g2 g3 (by omega)
    exact ⟨b0, x0, p0, k1, k2, k3, by omega⟩
  alv b x p hb hw hp hc := by
    obtain ⟨b1, x1, p1, g1, g2, g3, g4⟩ := h2.alv b x p hb hw hp (Nat.lt_of_lt_of_le hc h1.sz)
    obtain ⟨b0, x0, p0, k1, k2, k3, k4⟩ := h1.alv b1 x1 p1 g1 g2 g3 (by omega)
    exact ⟨b0, x0, p0, k1, k2, k3, by omega⟩

/-- a block of its own, at a number that is free -/
theorem HRel.new {ρ : Mp} {look : Look} {nx : Nat} {H : Array Obj} (h : HRel ρ look nx H) (id : Nat) (hid : id < nx) (hf : ρ id = none)
    (x : Blk) (o : Obj) (p : Place) (hp : p.c = H.size) (hb : BlkRel ρ p x o) :
    HRel (ρ.put id p) (fun b => if b = id then some x else look b) nx (H.push o) where
  dom b q hq := by
    unfold Mp.put at hq; split at hq
    · rename_i e; omega
    · exact h.dom b q hq
  blk b y hy ha := by
    replace hy : (if b = id then some x else look b) = some y := hy
    split at hy
    · rename_i e
      cases hy; subst e
      exact ⟨p, o, by simp [Mp.put], by rw [hp]; simp, hb.mono (Mp.le_put hf)⟩
    · rename_i e
      obtain ⟨q, o', g1, g2, g3⟩ := h.blk b y hy ha
      refine ⟨q, o', by simp [Mp.put, e, g1], ?_, g3.mono (Mp.le_put hf)⟩
      have := (Array.getElem?_eq_some_iff.1 g2).1
      rw [Array.getElem?_push, if_neg (by omega)]; exact g2
  apart b y b' y' q q' hy hw hy' ha hne hq hq' hc := by
    replace hy : (if b = id then some x else look b) = some y := hy
    replace hy' : (if b' = id then some x else look b') = some y' := hy'
    have old : ∀ b y q, b ≠ id → look b = some y → alive y = true → (ρ.put id p) b = some q → q.c < H.size := by
      intro b y q hne hy ha hq
      obtain ⟨q1, o1, g1, g2, _⟩ := h.blk b y hy ha
      rw [Mp.put, if_neg hne, g1] at hq; cases hq
      exact (Array.getElem?_eq_some_iff.1 g2).1
    have wal : ∀ y, wr y = true → alive y = true := by intro y hy; cases y <;> first | rfl | (simp [wr] at hy)
    by_cases e : b = id
    · rw [if_pos e] at hy
      rw [Mp.put, if_pos e] at hq; cases hq
      have e' : b' ≠ id := by omega
      rw [if_neg e'] at hy'
      have := old b' y' q' e' hy' ha hq'
      omega
    · rw [if_neg e] at hy
      by_cases e' : b' = id
      · rw [Mp.put, if_pos e'] at hq'; cases hq'
        have := old b y q e hy (wal y hw) hq
        omega
      · rw [if_neg e'] at hy'
        rw [Mp.put, if_neg e] at hq
        rw [Mp.put, if_neg e'] at hq'
        exact h.apart b y b' y' q q' hy hw hy' ha hne hq hq' hc

theorem HRel.congr {ρ : Mp} {look look' : Look} {nx nx' : Nat} {H : Array Obj} (h : HRel ρ look nx H) (hl : ∀ b, look' b = look b) (hn : nx ≤ nx') : HRel ρ look' nx' H where
  dom b p hb := Nat.lt_of_lt_of_le (h.dom b p hb) hn
  blk b x hx := h.blk b x (by rw [← hl]; exact hx)
  apart b x b' x' p p' hx hw hx' := h.apart b x b' x' p p' (by rw [← hl]; exact hx) hw (by rw [← hl]; exact hx')

theorem St.new_h (s : St) (x : Blk) : (s.new x).h.get = fun b => if b = s.nx then some x else s.h.get b := by
  funext b; cases s; exact T.get_set _ _ _ _
theorem St.new_nx (s : St) (x : Blk) : (s.new x).nx = s.nx + 1 := by cases s; rfl

theorem HRel.fresh {ρ : Mp} {look : Look} {nx : Nat} {H : Array Obj} (h : HRel ρ look nx H) {b : Nat} (hb : nx ≤ b) : ρ b = none := by
  cases e : ρ b with
  | none => rfl
  | some p => have := h.dom b p e; omega

/-- a new block at the next number -/
theorem Post.new {ρ : Mp} {s : St} {H : Array Obj} (h : HRel ρ s.h.get s.nx H) (x : Blk) (o : Obj) (p : Place) (hp : p.c = H.size) (hb : BlkRel ρ p x o) :
    Post ρ s H (ρ.put s.nx p) (s.new x) (H.push o) where
  ext b hb := by simp [Mp.put]; omega
  nx := by rw [St.new_nx]; omega
  rel := by
    rw [St.new_h, St.new_nx]
    exact (h.congr (fun _ => rfl) (Nat.le_succ _)).new s.nx (Nat.lt_succ_self _) (h.fresh (Nat.le_refl _)) x o p hp hb
  sz := by simp
  frame c hc _ := by rw [Array.getElem?_push, if_neg (by omega)]
  wrs b y q hy hw hq hc := by
    rw [St.new_h] at hy
    replace hy : (if b = s.nx then some x else s.h.get b) = some y := hy
    split at hy
    · rename_i e
      rw [Mp.put, if_pos e] at hq; cases hq; omega
    · rename_i e
      rw [Mp.put, if_neg e] at hq
      exact ⟨b, y, q, hy, hw, hq, rfl⟩
  alv b y q hy hw hq hc := by
    rw [St.new_h] at hy
    replace hy : (if b = s.nx then some x else s.h.get b) = some y := hy
    split at hy
    · rename_i e
      rw [Mp.put, if_pos e] at hq; cases hq; omega
    · rename_i e
      rw [Mp.put, if_neg e] at hq
      exact ⟨b, y, q, hy, hw, hq, rfl⟩

end Ev
