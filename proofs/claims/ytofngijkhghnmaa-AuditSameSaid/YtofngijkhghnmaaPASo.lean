import Derived.Test.YtofngijkhghnmaaPASx0
import Derived.ChangeArms
import Derived.ChangeSlices
namespace Go.Proofs.Ytofngijkhghnmaa.PAS
open Go.RowKit Go.Proofs.YtofngijkhghnmaaW.PrintWords Go.Proofs.YtofngijkhghnmaaW.PrintLast Go.Proofs.YtofngijkhghnmaaW.PrintMore
set_option linter.unusedVariables false

/-- what can be read as data of type t is a value of d -/
def Opens {α : Type} (P : Program) (t : TypeId) (d : Kd α) : Prop := ∀ {H : Type} (enc : TypeId × Value → H) (w : World) (base : Nat) (spare : Nat → Bool) (held : Bool) (fuel : Nat) (cs : List Value) (x : DataW H × List MemPlace),
  DataW.trod enc P w base spare held fuel t cs = some x → ∃ a : α, d.K w a cs

theorem add_add_ (a : Addr) (x y : Nat) : (a.add x).add y = a.add (x + y) := by
  unfold Addr.add
  by_cases hx : x = 0
  · subst hx; simp
  · by_cases hy : y = 0
    · subst hy; simp
    · simp [hx, hy]; omega
section
variable {P : Program} {t e : TypeId}
theorem opens_int {k : IntKind} (ht : P.underlying t = some (.int k)) : Opens P t (Kd.int k) := by
  intro H enc w base spare held fuel cs x h
  obtain ⟨n, rfl, _⟩ := DataW.trod_int ht h
  exact ⟨n, rfl⟩
theorem opens_string (ht : P.underlying t = some .string) : Opens P t Kd.string := by
  intro H enc w base spare held fuel cs x h
  obtain ⟨n, rfl, _⟩ := DataW.trod_string ht h
  exact ⟨n, rfl⟩
theorem opens_slice {α : Type} [Inhabited α] {d : Kd α} (ht : P.underlying t = some (.slice e)) (hc : P.cellsOf e = d.sz) (he : Opens P e d) : Opens P t (Kd.slice e d) := by
  intro H enc w base spare held fuel cs x h
  rcases DataW.trod_slice ht h with ⟨rfl, _⟩ | ⟨a, len, cap, elems, rest, n, _, rfl, _, hb, hl, hm, hlen, hel, _, _⟩
  · exact ⟨[], none, 0, rfl, Nat.le_refl _, rfl, Nat.zero_le _, fun h => absurd h (Nat.lt_irrefl _)⟩
  · have each : ∀ i, i < len → ∃ p c, w.cells? base (a.add (i * d.sz)) d.sz = some c ∧ d.K w p c := by
      intro i hi
      have h1 := hel i hi
      rw [List.getElem?_eq_getElem (by omega), hc, Option.bind_eq_some_iff] at h1
      obtain ⟨c, h1, h2⟩ := h1
      obtain ⟨p, hp⟩ := he enc w base spare held n c _ h2
      exact ⟨p, c, h1, hp⟩
    have hf : ∀ i, ∃ p : α, i < len → ∃ c, w.cells? base (a.add (i * d.sz)) d.sz = some c ∧ d.K w p c := by
      intro i
      by_cases hi : i < len
      · obtain ⟨p, c, h1, h2⟩ := each i hi
        exact ⟨p, fun _ => ⟨c, h1, h2⟩⟩
      · exact ⟨default, fun h => absurd h hi⟩
    let f := fun i => (hf i).choose
    have hfs := fun i => (hf i).choose_spec
    have hll : ((List.range len).map f).length = len := by simp
    refine ⟨(List.range len).map f, some a, cap, by rw [hll], by rw [hll]; exact hl, by rw [hll], by rw [hll]; exact Nat.le_trans (Nat.le_trans hl hm) (by decide), fun _ => ⟨a, rfl, ?_⟩⟩
    intro j p hj
    have hj' : j < len := by
      have := (List.getElem?_eq_some_iff.1 hj).1
      simpa using this
    have hp : p = f j := by
      rw [List.getElem?_map, List.getElem?_range hj'] at hj
      exact (Option.some.inj hj).symm
    obtain ⟨c, h1, h2⟩ := hfs j hj'
    refine ⟨c, d.K_len h2, hp ▸ h2, ?_⟩
    intro i u hu
    have hi : i < d.sz := by
      have := (List.getElem?_eq_some_iff.1 hu).1
      have := d.K_len h2
      omega
    have h3 := (World.cells?_some h1).2.2 i hi
    rw [hu] at h3
    rw [add_add_] at h3
    exact h3
end

theorem drop_take1 (cs : List Value) (i : Nat) (v : Value) (h : cs[i]? = some v) : (cs.drop i).take 1 = [v] := by
  obtain ⟨hi, rfl⟩ := List.getElem?_eq_some_iff.1 h
  rw [List.drop_eq_getElem_cons hi]
  rfl

/-- a struct of fields of one cell each -/
theorem trod_field {P : Program} {fs : Array Field} {H : Type} {enc : TypeId × Value → H} {w : World} {base : Nat} {spare : Nat → Bool} {held : Bool} {n : Nat} {cs : List Value} {xs : List (DataW H × List MemPlace)}
    (hlen : xs.length = fs.size) (hf : ∀ (i : Nat) (f : Field), fs[i]? = some f → DataW.trod enc P w base spare held n f.type ((cs.drop f.offset).take (P.cellsOf f.type)) = xs[i]?)
    (i : Nat) (f : Field) (hi : fs[i]? = some f) (v : Value) (hv : cs[f.offset]? = some v) (hc : P.cellsOf f.type = 1) {α : Type} {d : Kd α} (ho : Opens P f.type d) : ∃ a, d.K w a [v] := by
  have h1 := hf i f hi
  have hlt : i < xs.length := by
    rw [hlen]
    exact (Array.getElem?_eq_some_iff.1 hi).1
  rw [hc, drop_take1 cs _ v hv, List.getElem?_eq_getElem hlt] at h1
  exact ho _ _ _ _ _ _ _ _ h1

theorem opens55 : Opens Try.prog 55 k55 := by
  intro H enc w base spare held fuel cs x h
  obtain ⟨xs, n, _, _, hl, hlen, hf⟩ := DataW.trod_struct Try.underlying55 h
  have hl : cs.length = 2 := hl.trans (by kernel_rfl)
  match cs, hl with
  | [c0, c1], _ =>
    obtain ⟨a0, h0⟩ := trod_field hlen hf 0 _ rfl c0 rfl (by kernel_rfl) (opens_string Try.underlying9)
    obtain ⟨a1, h1⟩ := trod_field hlen hf 1 _ rfl c1 rfl (by kernel_rfl) (opens_string Try.underlying9)
    exact ⟨⟨a0, a1⟩, [c0], [c1], rfl, h0, h1⟩
theorem opens59 : Opens Try.prog 59 k59 := by
  intro H enc w base spare held fuel cs x h
  obtain ⟨xs, n, _, _, hl, hlen, hf⟩ := DataW.trod_struct Try.underlying59 h
  have hl : cs.length = 2 := hl.trans (by kernel_rfl)
  match cs, hl with
  | [c0, c1], _ =>
    obtain ⟨a0, h0⟩ := trod_field hlen hf 0 _ rfl c0 rfl (by kernel_rfl) (opens_string Try.underlying9)
    obtain ⟨a1, h1⟩ := trod_field hlen hf 1 _ rfl c1 rfl (by kernel_rfl) (opens_string Try.underlying9)
    exact ⟨⟨a0, a1⟩, [c0], [c1], rfl, h0, h1⟩
instance : Inhabited S55 := ⟨z55⟩
instance : Inhabited S59 := ⟨z59⟩
theorem opens33 : Opens Try.prog 33 (Kd.slice 9 Kd.string) := opens_slice Try.underlying33 (by kernel_rfl) (opens_string Try.underlying9)
theorem opens24 : Opens Try.prog 24 (Kd.slice 55 k55) := opens_slice Try.underlying24 (by kernel_rfl) opens55
theorem opens23 : Opens Try.prog 23 (Kd.slice 59 k59) := opens_slice Try.underlying23 (by kernel_rfl) opens59
theorem opens35 : Opens Try.prog 35 k35 := by
  intro H enc w base spare held fuel cs x h
  obtain ⟨xs, n, _, _, hl, hlen, hf⟩ := DataW.trod_struct Try.underlying35 h
  have hl : cs.length = 4 := hl.trans (by kernel_rfl)
  match cs, hl with
  | [c0, c1, c2, c3], _ =>
    obtain ⟨a0, h0⟩ := trod_field hlen hf 0 _ rfl c0 rfl (by kernel_rfl) (opens_int Try.underlying3)
    obtain ⟨a1, h1⟩ := trod_field hlen hf 1 _ rfl c1 rfl (by kernel_rfl) opens33
    obtain ⟨a2, h2⟩ := trod_field hlen hf 2 _ rfl c2 rfl (by kernel_rfl) opens24
    obtain ⟨a3, h3⟩ := trod_field hlen hf 3 _ rfl c3 rfl (by kernel_rfl) (opens_string Try.underlying9)
    exact ⟨⟨a0, a1, a2, a3⟩, [c0], [c1, c2, c3], rfl, h0, [c1], [c2, c3], rfl, h1, [c2], [c3], rfl, h2, h3⟩
instance : Inhabited S35 := ⟨z35⟩
theorem opens25 : Opens Try.prog 25 (Kd.slice 35 k35) := opens_slice Try.underlying25 (by kernel_rfl) opens35
structure S27 where
  f0 : Int
  f1 : Int
  f2 : ByteArray
  f3 : List S59
  f4 : List S55
  f5 : List S35
def k27 : Kd S27 := Kd.iso (Kd.pair (Kd.int .i64) (Kd.pair (Kd.int .i64) (Kd.pair Kd.string (Kd.pair (Kd.slice 59 k59) (Kd.pair (Kd.slice 55 k55) (Kd.slice 35 k35)))))) (fun x : S27 => (x.f0, x.f1, x.f2, x.f3, x.f4, x.f5))
theorem k27_open {w : World} {x : S27} {cs : List Value} (h : k27.K w x cs) : ∃ A3 c3 A4 c4 A5 c5, cs = [.int .i64 x.f0, .int .i64 x.f1, .string x.f2, .slice A3 x.f3.length c3, .slice A4 x.f4.length c4, .slice A5 x.f5.length c5] ∧
    x.f3.length ≤ c3 ∧ Kd.C k59 w A3 x.f3.length x.f3 ∧ x.f4.length ≤ c4 ∧ Kd.C k55 w A4 x.f4.length x.f4 ∧ x.f5.length ≤ c5 ∧ Kd.C k35 w A5 x.f5.length x.f5 := by
  obtain ⟨_, _, rfl, rfl, ⟨_, _, rfl, rfl, ⟨_, _, rfl, rfl, ⟨_, _, rfl, ⟨A3, c3, rfl, l3, g3⟩, ⟨_, _, rfl, ⟨A4, c4, rfl, l4, g4⟩, ⟨A5, c5, rfl, l5, g5⟩⟩⟩⟩⟩⟩ := h
  exact ⟨A3, c3, A4, c4, A5, c5, rfl, l3, g3, l4, g4, l5, g5⟩
theorem opens27 : Opens Try.prog 27 k27 := by
  intro H enc w base spare held fuel cs x h
  obtain ⟨xs, n, _, _, hl, hlen, hf⟩ := DataW.trod_struct Try.underlying27 h
  have hl : cs.length = 6 := hl.trans (by kernel_rfl)
  match cs, hl with
  | [c0, c1, c2, c3, c4, c5], _ =>
    obtain ⟨a0, h0⟩ := trod_field hlen hf 0 _ rfl c0 rfl (by kernel_rfl) (opens_int Try.underlying22)
    obtain ⟨a1, h1⟩ := trod_field hlen hf 1 _ rfl c1 rfl (by kernel_rfl) (opens_int Try.underlying3)
    obtain ⟨a2, h2⟩ := trod_field hlen hf 2 _ rfl c2 rfl (by kernel_rfl) (opens_string Try.underlying9)
    obtain ⟨a3, h3⟩ := trod_field hlen hf 3 _ rfl c3 rfl (by kernel_rfl) opens23
    obtain ⟨a4, h4⟩ := trod_field hlen hf 4 _ rfl c4 rfl (by kernel_rfl) opens24
    obtain ⟨a5, h5⟩ := trod_field hlen hf 5 _ rfl c5 rfl (by kernel_rfl) opens25
    exact ⟨⟨a0, a1, a2, a3, a4, a5⟩, [c0], [c1, c2, c3, c4, c5], rfl, h0, [c1], [c2, c3, c4, c5], rfl, h1, [c2], [c3, c4, c5], rfl, h2, [c3], [c4, c5], rfl, h3, [c4], [c5], rfl, h4, h5⟩
end Go.Proofs.Ytofngijkhghnmaa.PAS
