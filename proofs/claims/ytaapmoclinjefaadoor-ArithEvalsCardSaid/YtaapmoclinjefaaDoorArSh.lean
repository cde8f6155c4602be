import Derived.Test.YtaapmoclinjefaaDoorArV9
import Derived.Test.YtaapmoclinjefaaDoorArX
import Derived.Test.YtaapmoclinjefaaDoorEwJ
import Derived.Test.YtaapmoclinjefaaDoorEwK
import Derived.Test.YtaapmoclinjefaaDoorEwL
namespace Ar
open Go Go.Proofs Ev Go.Lib Nu
set_option linter.unusedVariables false
set_option linter.unusedSimpArgs false
set_option linter.unnecessarySimpa false
set_option maxRecDepth 100000
theorem callR_ev {X : T Ext} (h6 : (En X).ext.get 6 = some (.fn (ofG REv) gsE)) {l : List UInt8} (hl : l.length ≤ 900) {t : Tr} {l' : List UInt8} {b' : Bool} (hp : Ps .X l false t l' b') {d : D} {vs : List (List UInt8 × List UInt8)} (hv : IsV d vs) (ho : okVs vs) {s : St} (hg : rowsAre s.h.get gsE = true) :
    CallR (En X) 6 [.c (.str (Str.ofL l)), .c d.toC] s (pvE (evalF vs t l' b')).toV s :=
  callR_fn_g (ps := [.c (.str (Str.ofL l)), .c d]) (pv := pvE (evalF vs t l' b')) h6 hg (ofG_eq ⟨l, d, vs, t, l', b', rfl, hl, hp, hv, ho, rfl⟩ fun v' h => rev_u hp hv h) (by simp only [List.all_cons, List.all_nil, PW.plain, isV_plain hv]; rfl)
theorem toV_pvE' (p : Int × Int) : (pvE p).toV = .tup [.c (.int .i64 p.1), .c (.int .i64 p.2)] := rfl
noncomputable def e8k' : Nat × Ext := (8, .const (.bool true) Ak.gs)
theorem c8k' : Ok e8k' := Ak.known_ok
def GoodV (d : D) : Prop := ∃ vs, IsV d vs ∧ ∀ x ∈ vs, x.2.length ≤ 140737488351232
theorem w_str {P : Program} {B : Nat} {t : TypeId} (hu : P.underlying t = some .string) {ds : List D} (h : ShapeW P B t ds) : ∃ l, ds = [.str (Str.ofL l)] ∧ l.length ≤ B := Ev.w_str hu h
section
variable {P : Program} {B : Nat}
theorem w_struct {t : TypeId} {fs : Array Field} (hu : P.underlying t = some (.struct fs)) {ds : List D} (h : ShapeW P B t ds) : ShapeWF P B fs.toList ds := by
  cases h with
  | bool _ b h => rw [hu] at h; cases h
  | int _ k n h => rw [hu] at h; cases h
  | str _ l h => rw [hu] at h; cases h
  | nils _ e' h => rw [hu] at h; cases h
  | sl _ e' l h => rw [hu] at h; cases h
  | struct _ fs l h h1 => rw [hu] at h; cases h; exact h1
theorem w_cons {f : Field} {fs : List Field} {ds : List D} (h : ShapeWF P B (f :: fs) ds) : ∃ x l, ds = x ++ l ∧ ShapeW P B f.type x ∧ ShapeWF P B fs l := by
  cases h with
  | cons _ _ x l h1 h2 => exact ⟨x, l, rfl, h1, h2⟩
theorem w_nil {ds : List D} (h : ShapeWF P B [] ds) : ds = [] := by
  cases h; rfl
end
theorem w32 {x : List D} (h : ShapeW Tryd.prog reachBytes 32 x) : ∃ y : List UInt8 × List UInt8, x = elV y ∧ y.2.length ≤ reachBytes := by
  obtain ⟨a, l, rfl, h1, h⟩ := w_cons (w_struct Tryd.underlying32 h)
  obtain ⟨b, l, rfl, h2, h⟩ := w_cons h
  obtain rfl := w_nil h
  obtain ⟨a, rfl, _⟩ := Ev.w_str Tryd.underlying9 h1
  obtain ⟨b, rfl, hb⟩ := Ev.w_str Tryd.underlying9 h2
  exact ⟨(a, b), rfl, hb⟩
theorem w32s : ∀ {l : List (List D)}, (∀ x ∈ l, ShapeW Tryd.prog reachBytes 32 x) → ∃ vs : List (List UInt8 × List UInt8), l = vs.map elV ∧ ∀ y ∈ vs, y.2.length ≤ reachBytes := by
  intro l
  induction l with
  | nil => intro _; exact ⟨[], rfl, fun z h => by cases h⟩
  | cons x l ih =>
    intro h
    obtain ⟨y, rfl, hy⟩ := w32 (h x (by simp))
    obtain ⟨vs, rfl, hl⟩ := ih fun y hy => h y (by simp [hy])
    exact ⟨y :: vs, rfl, fun z hz => (List.mem_cons.1 hz).elim (fun e => e ▸ hy) (hl z)⟩
theorem w22 {ds : List D} (h : ShapeW Tryd.prog reachBytes 22 ds) : ∃ d, ds = [d] ∧ GoodV d := by
  rcases w_slice Tryd.underlying22 h with rfl | ⟨l, rfl, h1, h2⟩
  · exact ⟨_, rfl, [], ⟨.inl rfl, rfl⟩, fun x h => by cases h⟩
  · obtain ⟨vs, rfl, hb⟩ := w32s h2
    exact ⟨_, rfl, vs, ⟨.inr ⟨_, rfl, fun x hx => by obtain ⟨y, _, rfl⟩ := List.mem_map.1 hx; rfl⟩, rfl⟩, hb⟩
end Ar
