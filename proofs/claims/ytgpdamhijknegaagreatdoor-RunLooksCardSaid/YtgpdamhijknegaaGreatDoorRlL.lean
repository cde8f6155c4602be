import Derived.Test.YtgpdamhijknegaaGreatDoorRlK
import Derived.Test.YtgpdamhijknegaaGreatDoorEwJ
namespace Rl
open Go Go.Proofs Ev
set_option linter.unusedVariables false
set_option linter.unusedSimpArgs false
set_option maxRecDepth 1000000
def RLooks (ps : List PW) (v : PV) : Prop := ∃ d n x ca, ps = [.c d, .c (.int .i64 n), .agg x, .c ca] ∧ Good 2 GoodA d ∧ GoodS x ∧ Good 4 GoodC ca ∧ v = .w (.c (.bool true))
theorem rows_there : rowsAre (st0 Rk.gs Tryz.prog.globals.size).h.get Rk.gs = true := by kernel_rfl
theorem rows_below : ∀ p ∈ Rk.gs, p.1 < Tryz.prog.globals.size := fun p hp => by
  have := List.all_eq_true.1 Rk.gs_ok p hp
  rw [Bool.and_eq_true, decide_eq_true_eq] at this
  exact this.2
theorem looks_pure : PureOk Tryz.prog 3 Rk.gs (ofG RLooks) :=
  pure_of_run any_ok types_ok fns_ok oks3 (f := 3) rfl Rk.gs _ fun ps pv hp => by
    obtain ⟨d, n, x, ca, rfl, hd, hx, hca, rfl⟩ := ofG_some hp
    obtain ⟨v, s', ⟨N, hN⟩, bs, hz⟩ := looks3 (pairT exts3 .nil) rfl rfl rfl rfl rfl rfl rfl d n x ca (st0 Rk.gs Tryz.prog.globals.size) hd hx hca rows_there rows_below (fun v s' => ∃ bs, frzV s'.h.get v = some (PV.w (.c (.bool true)), bs)) fun s' => ⟨[], rfl⟩
    exact ⟨N, N, v, s', bs, hN N (N + 1) (Nat.le_refl _) (Nat.le_succ _), hz⟩
theorem looks_val {d : D} {n : Int} {x : List D} {ca : D} (hd : Good 2 GoodA d) (hx : GoodS x) (hca : Good 4 GoodC ca) : ofG RLooks [.c d, .c (.int .i64 n), .agg x, .c ca] = some (.w (.c (.bool true))) :=
  ofG_eq ⟨d, n, x, ca, rfl, hd, hx, hca, rfl⟩ (by rintro v' ⟨_, _, _, _, _, _, _, _, rfl⟩; rfl)
theorem true_of_pure_g {P : Program} {f : Nat} {F : List PW → Option PV} {gs : List (Nat × List C)} (hgs : gs.all (fun p => and (p.2.all plainC) (decide (p.1 < P.globals.size))) = true) (hp : PureOk P f gs F) {w : World} (hw : HoldsRows gs w.heap) {vals : Array Value} {ps : List PW}
    (hF : F ps = some (.w (.c (.bool true)))) (hv : All2 (PWRel (snapAll w.heap)) ps vals.toList) : Calls P f vals w (fun e w' => e = .returned (.bool true) ∧ Go.RowKit.Below w.heap.size w w') := by
  have hr : HRel ⟨(rhoG gs P.globals.size).f, snapAll w.heap⟩ (st0 gs P.globals.size).h.get P.globals.size w.heap :=
    (hrelG hgs hw).snap (fun b x hb => rows0_wr gs _ b x hb) (fun c i v h => by cases h) (snapAll_lies w.heap)
  have h := hp _ w vals ps _ hr (fun g h => gokG gs _ g h) hF hv
  refine Calls.mono h.2 ?_
  rintro e w' ⟨u, rfl, m', _, _, _, hu, hfr, hsz, hs⟩
  have hu : DRel m' (.bool true) u := hu
  cases hu
  exact ⟨rfl, hs.1, hs.2.2, hs.2.1, hsz, hfr⟩
/-! shapes -/
mutual
theorem forget {P : Program} {B : Nat} : ∀ {t : TypeId} {ds : List D}, ShapeW P B t ds → Shape P t ds
  | _, _, .bool t b h => .bool t b h
  | _, _, .int t k n h h1 h2 => .int t k n h h1 h2
  | _, _, .str t l h _ h2 => .str t l h h2
  | _, _, .nils t e h => .nils t e h
  | _, _, .sl t e l h h1 h2 _ => .sl t e l h h1 fun x hx => forget (h2 x hx)
  | _, _, .struct t fs l h h1 => .struct t fs l h (forgetF h1)
theorem forgetF {P : Program} {B : Nat} : ∀ {fs : List Field} {ds : List D}, ShapeWF P B fs ds → ShapeF P fs ds
  | _, _, .nil => .nil
  | _, _, .cons f fs x l h1 h2 => .cons f fs x l (forget h1) (forgetF h2)
end
mutual
theorem shape_plain {P : Program} : ∀ {t : TypeId} {ds : List D}, Shape P t ds → ds.all D.plain = true
  | _, _, .bool t b h => rfl
  | _, _, .int t k n h h1 h2 => rfl
  | _, _, .str t l h _ => rfl
  | _, _, .nils t e h => rfl
  | _, _, .sl t e l h h1 h2 => rfl
  | _, _, .struct t fs l h h1 => shapeF_plain h1
theorem shapeF_plain {P : Program} : ∀ {fs : List Field} {ds : List D}, ShapeF P fs ds → ds.all D.plain = true
  | _, _, .nil => rfl
  | _, _, .cons f fs x l h1 h2 => by rw [List.all_append, shape_plain h1, shapeF_plain h2]; rfl
end
section
variable {P : Program} {B : Nat}
theorem w_slice {t e : TypeId} (hu : P.underlying t = some (.slice e)) {ds : List D} (h : ShapeW P B t ds) : ds = [.nils] ∨ ∃ l, ds = [.sl (P.cellsOf e) l] ∧ l.length * P.bytesOf e ≤ B := by
  cases h with
  | bool _ b h => rw [hu] at h; cases h
  | int _ k n h => rw [hu] at h; cases h
  | str _ l h => rw [hu] at h; cases h
  | nils _ e' h => exact .inl rfl
  | sl _ e' l h h1 h2 h3 => rw [hu] at h; cases h; exact .inr ⟨l, rfl, h3⟩
  | struct _ fs l h => rw [hu] at h; cases h
theorem w_struct {t : TypeId} {fs : Array Field} (hu : P.underlying t = some (.struct fs)) {ds : List D} (h : ShapeW P B t ds) : ShapeWF P B fs.toList ds := by
  cases h with
  | bool _ b h => rw [hu] at h; cases h
  | int _ k n h => rw [hu] at h; cases h
  | str _ l h => rw [hu] at h; cases h
  | nils _ e' h => rw [hu] at h; cases h
  | sl _ e' l h => rw [hu] at h; cases h
  | struct _ fs l h h1 => rw [hu] at h; cases h; exact h1
theorem w_cons {f : Field} {fs : List Field} {ds : List D} (h : ShapeWF P B (f :: fs) ds) : ∃ x l, ds = x ++ l ∧ ShapeW P B f.type x ∧ ShapeWF P B fs l := by
  cases h with
  | cons _ _ x l h1 h2 => exact ⟨x, l, rfl, h1, h2⟩
theorem w_nil {ds : List D} (h : ShapeWF P B [] ds) : ds = [] := by
  cases h; rfl
end
theorem good_of_shape {t e : TypeId} {z : Nat} {p : List D → Prop} (hu : Tryz.prog.underlying t = some (.slice e)) (hz : Tryz.prog.cellsOf e = z) (hp : ∀ x, Shape Tryz.prog e x → x.length = z ∧ p x) {ds : List D} (h : Shape Tryz.prog t ds) : ∃ d, ds = [d] ∧ Good z p d := by
  rcases shape_slice hu h with rfl | ⟨l, rfl, h1, h2⟩
  · exact ⟨.nils, rfl, good_nils _ _⟩
  · subst hz
    refine ⟨_, rfl, ⟨.inr ⟨l, rfl, fun x hx => (hp x (h2 x hx)).1⟩, fun x hx => (hp x (h2 x hx)).2, h1⟩⟩
theorem shape_str1 {t : TypeId} (hu : Tryz.prog.underlying t = some .string) (x : List D) (h : Shape Tryz.prog t x) : x.length = 1 ∧ Str1 x := by
  obtain ⟨l, rfl⟩ := shape_string hu h
  exact ⟨rfl, l, rfl⟩
theorem shape54 (x : List D) (h : Shape Tryz.prog 54 x) : x.length = 2 ∧ Str2 x := by
  obtain ⟨a, l, rfl, h1, h⟩ := shapeF_cons (shape_struct Tryz.underlying54 h)
  obtain ⟨b, l, rfl, h2, h⟩ := shapeF_cons h
  obtain rfl := shapeF_nil h
  obtain ⟨a, rfl⟩ := shape_string Tryz.underlying9 h1
  obtain ⟨b, rfl⟩ := shape_string Tryz.underlying9 h2
  exact ⟨rfl, a, b, rfl⟩
theorem shape57 (x : List D) (h : Shape Tryz.prog 57 x) : x.length = 2 ∧ Str2 x := by
  obtain ⟨a, l, rfl, h1, h⟩ := shapeF_cons (shape_struct Tryz.underlying57 h)
  obtain ⟨b, l, rfl, h2, h⟩ := shapeF_cons h
  obtain rfl := shapeF_nil h
  obtain ⟨a, rfl⟩ := shape_string Tryz.underlying9 h1
  obtain ⟨b, rfl⟩ := shape_string Tryz.underlying9 h2
  exact ⟨rfl, a, b, rfl⟩
theorem shape40 (x : List D) (h : Shape Tryz.prog 40 x) : x.length = 2 ∧ GoodA x := by
  obtain ⟨a, l, rfl, h1, h⟩ := shapeF_cons (shape_struct Tryz.underlying40 h)
  obtain ⟨b, l, rfl, h2, h⟩ := shapeF_cons h
  obtain rfl := shapeF_nil h
  obtain ⟨a, rfl, _, _⟩ := shape_int Tryz.underlying3 h1
  obtain ⟨b, rfl⟩ := shape_string Tryz.underlying9 h2
  exact ⟨rfl, a, b, rfl⟩
theorem shape35 (x : List D) (h : Shape Tryz.prog 35 x) : x.length = 4 ∧ GoodC x := by
  obtain ⟨a, l, rfl, h1, h⟩ := shapeF_cons (shape_struct Tryz.underlying35 h)
  obtain ⟨b, l, rfl, h2, h⟩ := shapeF_cons h
  obtain ⟨c, l, rfl, h3, h⟩ := shapeF_cons h
  obtain ⟨d, l, rfl, h4, h⟩ := shapeF_cons h
  obtain rfl := shapeF_nil h
  obtain ⟨n, rfl, n1, n2⟩ := shape_int Tryz.underlying3 h1
  obtain ⟨b, rfl, gb⟩ := good_of_shape Tryz.underlying24 (by kernel_rfl) (shape_str1 Tryz.underlying9) h2
  obtain ⟨c, rfl, gc⟩ := good_of_shape Tryz.underlying23 (by kernel_rfl) shape57 h3
  obtain ⟨d, rfl⟩ := shape_string Tryz.underlying9 h4
  exact ⟨rfl, n, b, c, d, rfl, gb, gc, n1, n2⟩
theorem shape22 {x : List D} (h : Shape Tryz.prog 22 x) : ∃ d, x = [d] ∧ Good 2 GoodA d := good_of_shape Tryz.underlying22 (by kernel_rfl) shape40 h
theorem shape38 {x : List D} (h : Shape Tryz.prog 38 x) : ∃ d, x = [d] ∧ Good 4 GoodC d := good_of_shape Tryz.underlying38 (by kernel_rfl) shape35 h
theorem w_good {t e : TypeId} {z by_ B : Nat} {p : List D → Prop} (hu : Tryz.prog.underlying t = some (.slice e)) (hz : Tryz.prog.cellsOf e = z) (hb : Tryz.prog.bytesOf e = by_) (hp : ∀ x, Shape Tryz.prog e x → x.length = z ∧ p x) {ds : List D} (h : ShapeW Tryz.prog B t ds) :
    ∃ d, ds = [d] ∧ Good z p d ∧ (els d).length * by_ ≤ B := by
  obtain ⟨d, rfl, g⟩ := good_of_shape hu hz hp (forget h)
  refine ⟨d, rfl, g, ?_⟩
  rcases w_slice hu h with h1 | ⟨l, h1, h2⟩
  · cases h1; simp [els]
  · cases h1; rw [hb] at h2; exact h2
theorem len_sl {t e : TypeId} (hu : Tryz.prog.underlying t = some (.slice e)) (ds : List D) (h : Shape Tryz.prog t ds) : ds.length = 1 := by
  rcases shape_slice hu h with rfl | ⟨l, rfl, _⟩ <;> rfl
theorem len_int {t : TypeId} {k : IntKind} (hu : Tryz.prog.underlying t = some (.int k)) (ds : List D) (h : Shape Tryz.prog t ds) : ds.length = 1 := by
  obtain ⟨n, rfl, _⟩ := shape_int hu h; rfl
theorem len_str {t : TypeId} (hu : Tryz.prog.underlying t = some .string) (ds : List D) (h : Shape Tryz.prog t ds) : ds.length = 1 := by
  obtain ⟨n, rfl⟩ := shape_string hu h; rfl
theorem reach_max {n : Nat} (h : n ≤ reachBytes) : n ≤ maxBytes := by
  have h1 : reachBytes = 140737488351232 := rfl
  have h2 : maxBytes = 140737488355328 := rfl
  omega
theorem open22 : openable Tryz.prog 9 22 = true := by kernel_rfl
theorem open37 : openable Tryz.prog 9 37 = true := by kernel_rfl
theorem open38 : openable Tryz.prog 9 38 = true := by kernel_rfl
theorem w27 {B : Nat} {x : List D} (h : ShapeW Tryz.prog B 27 x) : ∃ d r s, x = [d, r, s] ∧ Good 2 Str2 d ∧ (els d).length * 32 ≤ B := by
  obtain ⟨a, l, rfl, h1, h⟩ := w_cons (w_struct Tryz.underlying27 h)
  obtain ⟨b, l, rfl, h2, h⟩ := w_cons h
  obtain ⟨c, l, rfl, h3, h⟩ := w_cons h
  obtain rfl := w_nil h
  obtain ⟨a, rfl, ga, ba⟩ := w_good Tryz.underlying23 (by kernel_rfl) (by kernel_rfl) shape57 h1
  obtain ⟨b, rfl⟩ := List.length_eq_one_iff.1 (len_sl Tryz.underlying24 _ (forget h2))
  obtain ⟨c, rfl⟩ := List.length_eq_one_iff.1 (len_sl Tryz.underlying25 _ (forget h3))
  exact ⟨a, b, c, rfl, ga, ba⟩
theorem w37 {x : List D} (h : ShapeW Tryz.prog reachBytes 37 x) (hlen : x.length = 21) : GoodS x := by
  have hp := shape_plain (forget h)
  obtain ⟨a, l, rfl, h1, h⟩ := w_cons (w_struct Tryz.underlying37 h)
  obtain ⟨b, l, rfl, h2, h⟩ := w_cons h
  obtain ⟨c, l, rfl, h3, h⟩ := w_cons h
  obtain ⟨d, l, rfl, h4, h⟩ := w_cons h
  obtain ⟨v, r, s, rfl, gv, bv⟩ := w27 h1
  obtain ⟨fl, rfl, gf, bf⟩ := w_good Tryz.underlying28 (by kernel_rfl) (by kernel_rfl) shape54 h2
  obtain ⟨n, rfl, _⟩ := shape_int Tryz.underlying3 (forget h3)
  obtain ⟨ot, rfl⟩ := shape_string Tryz.underlying9 (forget h4)
  exact ⟨hlen, hp, ⟨v, rfl, gv, reach_max bv⟩, ⟨fl, rfl, gf, reach_max bf⟩, ⟨n, rfl⟩, ⟨ot, rfl⟩⟩
end Rl
