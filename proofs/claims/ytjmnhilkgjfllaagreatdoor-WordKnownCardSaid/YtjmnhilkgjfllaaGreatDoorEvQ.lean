import Derived.Test.YtjmnhilkgjfllaaGreatDoorEvP
set_option linter.unusedVariables false
set_option linter.unusedSimpArgs false
namespace Ev
open Go

section
variable {P : Program} {w : World} {E : Env} {ρ : Mp} {a : A} {e : Operand → Value} {x y : Operand} {s s' : St}

/-! ### store -/
theorem store_ok (hE : EnvOk E P) (h : HRel ρ s.h.get s.nx w.heap) (hx : OpRel ρ a e x) (hy : OpRel ρ a e y) {t : TypeId} {r : V} (hr : aStore E a t x y s = .ok r s') :
    r = .un ∧ ∃ w', (Instr.storeAt t (e x) (e y)).run P w = .ok () w' ∧ Post ρ s w.heap ρ s' w'.heap ∧ Same w w' := by
  unfold aStore at hr
  cases h1 : opP a x with
  | none => rw [h1] at hr; cases hr
  | some bo =>
    obtain ⟨b, o⟩ := bo
    rw [h1] at hr
    simp only [] at hr
    cases h2 : opW a y with
    | none => rw [h2] at hr; cases hr
    | some v =>
      rw [h2] at hr
      simp only [] at hr
      unfold store at hr
      cases hi : E.tab.get t with
      | none => rw [hi] at hr; cases hr
      | some i =>
        rw [hi] at hr
        simp only [] at hr
        cases hb : Nat.beq (lenA v.cells 0) i.size with
        | false => rw [hb] at hr; cases hr
        | true =>
          rw [hb] at hr
          simp only [] at hr
          cases hw : writeL s b o v.cells with
          | none => rw [hw] at hr; cases hr
          | some s1 =>
            rw [hw] at hr
            cases hr
            refine ⟨rfl, ?_⟩
            obtain ⟨p, hp, ex⟩ := toP_rel hx h1
            have hv := (toW_rel hy h2).cells
            obtain ⟨w', q1, q2⟩ := run_writeL (P := P) h hw hp hv
            refine ⟨w', ?_, q2⟩
            obtain ⟨f, f1, f2, _⟩ := hE.tab t i hi
            have hl : v.cells.length = i.size := by have := Nat.eq_of_beq_eq_true hb; rw [lenA_zero] at this; exact this
            have hsz : (e y).cells.size = f.size := by have := hv.length; simp at this; omega
            unfold Instr.storeAt storeVar
            simp only [ex, Instr.sureAddr, Sem.run_bind, Sem.run_pure, Result.andThen_ok, run_size f1, ne_eq, hsz, not_true_eq_false, if_false]
            exact q1

/-! ### append -/
theorem newCells_ok {look : Look} (h : Sees ρ look w.heap) {c : C} {u : Value} (hc : CRel ρ c u) {sz m : Nat} {l : List C} (hz : 1 ≤ sz) (hn : newCells look sz c = some (m, l)) :
    (∀ w : World, (Builtin.lenOf u).run P w = .ok m w) ∧ ∃ vs : List Value, LRel ρ l vs ∧ vs.length = m * sz ∧ ∀ w' : World, w'.heap = w.heap → (Builtin.firstCells sz m u).run P w' = .ok vs.toArray w' := by
  cases c <;> simp only [newCells] at hn <;> try (cases hn; done)
  case str x =>
    obtain ⟨bs, rfl, rfl⟩ := hc
    cases hb : Nat.beq sz 1 with
    | false => rw [hb] at hn; cases hn
    | true =>
      rw [hb] at hn
      cases hn
      have hs := Nat.eq_of_beq_eq_true hb
      subst hs
      have hB : bytesC (Str.of bs) (Str.of bs).len = bs.data.toList.map (fun b => C.int .u8 (b.toNat : Int)) := by
        rw [str_len, bytesC_eq bs _ (Nat.le_refl _)]; simp
      refine ⟨fun w => rfl, bs.data.toList.map (fun b => Value.int .u8 (b.toNat : Int)), ?_, ?_, fun w' _ => ?_⟩
      · rw [hB]
        generalize bs.data.toList = q
        induction q with
        | nil => exact .nil
        | cons b q ih => exact .cons rfl ih
      · simp [str_len]
      · simp only [Builtin.firstCells, Sem.run_pure, str_len]
        congr 1
        apply Array.ext'
        simp [ByteArray.extract, ByteArray.copySlice]
        rw [List.take_of_length_le (by simp)]
  case nils =>
    cases hn
    have hu : u = .slice none 0 0 := hc
    subst hu
    exact ⟨fun w => rfl, [], .nil, by simp, fun w' _ => rfl⟩
  case sl b o n cap z =>
    cases hl : readL look b o (Nat.mul n sz) with
    | none => rw [hl] at hn; cases hn
    | some l' =>
      rw [hl] at hn
      cases hn
      obtain ⟨p, ad, cp, hp, rfl, hs⟩ := hc
      obtain ⟨vs, h1, h2, _, h3⟩ := readL_rel h hl hp
      refine ⟨fun w => rfl, vs, h1, h2, fun w' hw' => ?_⟩
      show (loadCells ad (m * sz)).run P w' = _
      have hv : ∀ j v, vs[j]? = some v → w'.cell? (Addr.add ⟨p.c, p.o + o, none⟩ j) = some v := h3 w' hw'
      have := run_loadCells_list (P := P) w' ⟨p.c, p.o + o, none⟩ vs hv
      rw [h2] at this
      by_cases hm : m = 0
      · subst hm
        have hvs : vs = [] := by have : vs.length = 0 := by rw [h2]; exact Nat.zero_mul _
                                 simpa using this
        subst hvs
        rw [Nat.zero_mul]; rfl
      · rw [sl_ad hs (by have := hs.le; omega)]; exact this

section
variable {ts : Array Nat} {t el ty : TypeId} {f : TypeInfo} {sLen sCap m : Nat} {yv : Value} {news olds : List Value}

theorem run_app_room (h0 : ts[0]? = some t) (ht : P.underlying t = some (.slice el)) (hi : P.info? el = some f)
    (hz : ∀ tx, ts[1]? = some tx → (∃ q, P.underlying tx = some (.slice q)) ∨ P.underlying tx = some .string)
    (hl : (Builtin.lenOf yv).run P w = .ok m w) (hf : (Builtin.firstCells f.size m yv).run P w = .ok news.toArray w) (hr : sLen + m ≤ sCap) (ad : Addr) {w' : World}
    (hst : (storeCells (ad.add (sLen * f.size)) news).run P w = .ok () w') :
    (Builtin.append_ ts ty #[.slice (some ad) sLen sCap, yv]).run P w = .ok (.slice (some ad) (sLen + m) sCap) w' := by
  cases h1 : ts[1]? with
  | none => simp [Builtin.append_, h0, h1, run_und ht, run_size hi, hl, hf, hr, hst]
  | some tx =>
    rcases hz tx h1 with ⟨q, hq⟩ | hq <;> simp [Builtin.append_, h0, h1, run_und ht, run_und hq, run_size hi, hl, hf, hr, hst]

theorem run_app_nil0 (h0 : ts[0]? = some t) (ht : P.underlying t = some (.slice el)) (hi : P.info? el = some f)
    (hz : ∀ tx, ts[1]? = some tx → (∃ q, P.underlying tx = some (.slice q)) ∨ P.underlying tx = some .string)
    (hl : (Builtin.lenOf yv).run P w = .ok 0 w) (hf : (Builtin.firstCells f.size 0 yv).run P w = .ok news.toArray w) :
    (Builtin.append_ ts ty #[.slice none 0 0, yv]).run P w = .ok (.slice none 0 0) w := by
  cases h1 : ts[1]? with
  | none => simp [Builtin.append_, h0, h1, run_und ht, run_size hi, hl, hf]
  | some tx =>
    rcases hz tx h1 with ⟨q, hq⟩ | hq <;> simp [Builtin.append_, h0, h1, run_und ht, run_und hq, run_size hi, hl, hf]

theorem run_app_grow (h0 : ts[0]? = some t) (ht : P.underlying t = some (.slice el)) (hi : P.info? el = some f) {zv : Value} (hzv : f.zero = some zv)
    (hz : ∀ tx, ts[1]? = some tx → (∃ q, P.underlying tx = some (.slice q)) ∨ P.underlying tx = some .string)
    (hl : (Builtin.lenOf yv).run P w = .ok m w) (hf : (Builtin.firstCells f.size m yv).run P w.drew = .ok news.toArray w.drew) (base : Option Addr)
    (hfo : (Builtin.firstCells f.size sLen (.slice base sLen sCap)).run P w.drew = .ok olds.toArray w.drew)
    (hr : sCap < sLen + m) (hb : (sLen + m) * f.bytes ≤ 140737488355328) (hb1 : 1 ≤ f.bytes) :
    (Builtin.append_ ts ty #[.slice base sLen sCap, yv]).run P w = .ok (.slice (some ⟨w.heap.size, 0, none⟩) (sLen + m) (grownCap w (sLen + m) sCap el))
      (w.drew.alloc (.cells ((olds ++ news).toArray ++ Builtin.zeroCells zv.cells (grownCap w (sLen + m) sCap el - (sLen + m))) el)) := by
  have hassoc : ∀ z : Array Value, olds.toArray ++ (news.toArray ++ z) = (olds ++ news).toArray ++ z := fun z => by apply Array.ext'; simp
  have hn : ¬ (sLen + m ≤ sCap) := by omega
  have hbb : sLen + m ≤ (sLen + m) * f.bytes := Nat.le_mul_of_pos_right _ (by omega)
  have h63' : ¬ (9223372036854775807 < ((sLen : Int) + (m : Int))) := by omega
  have h48' : ¬ (281474976710656 < Builtin.nextslicecap (sLen + m) sCap * f.bytes) := by have := growslice_fits (by omega : sCap < sLen + m) hb; omega
  have hbz : ¬ f.bytes = 0 := by omega
  cases h1 : ts[1]? with
  | none => simp [Builtin.append_, h0, h1, run_und ht, run_size hi, zeroValue, hi, hzv, typeInfo, hl, hf, hfo, hn, h63', h48', hbz, Question.forced, newRow, grownCap, hassoc]
  | some tx =>
    rcases hz tx h1 with ⟨q, hq⟩ | hq <;> simp [Builtin.append_, h0, h1, run_und ht, run_und hq, run_size hi, zeroValue, hi, hzv, typeInfo, hl, hf, hfo, hn, h63', h48', hbz, Question.forced, newRow, grownCap, hassoc]

end


/-- a row that may be written is sealed -/
theorem HRel.seal {look : Look} {nx : Nat} {H : Array Obj} (h : HRel ρ look nx H) {b : Nat} {r : Row} (hb : look b = some (.row r)) :
    HRel ρ (fun x => if x = b then some (.row { r with leaf := false }) else look x) nx H where
  dom := h.dom
  blk c x hx ha := by
    replace hx : (if c = b then some (Blk.row { r with leaf := false }) else look c) = some x := hx
    split at hx
    · rename_i e; subst e; cases hx
      obtain ⟨p, o, g1, g2, arr, el, fz, g3, g4⟩ := h.blk c _ hb rfl
      exact ⟨p, o, g1, g2, arr, el, fz, g3, ⟨g4.tot, g4.kn, g4.le, g4.sh, g4.cell, (fun hh => by cases hh), (fun hh => by cases hh)⟩⟩
    · exact h.blk c x hx ha
  apart c x c' x' p p' hx hw hx' ha hne hp hp' hc := by
    replace hx : (if c = b then some (Blk.row { r with leaf := false }) else look c) = some x := hx
    replace hx' : (if c' = b then some (Blk.row { r with leaf := false }) else look c') = some x' := hx'
    split at hx
    · cases hx; cases hw
    · split at hx'
      · rename_i _ e; subst e; cases hx'
        obtain ⟨r1, r2, s1, s2, s3, s4, s5⟩ := h.apart c x c' _ p p' hx hw hb rfl hne hp hp' hc
        cases s2
        exact ⟨r1, _, s1, rfl, rfl, s4, s5⟩
      · exact h.apart c x c' x' p p' hx hw hx' ha hne hp hp' hc

theorem Post.seal (h : HRel ρ s.h.get s.nx w.heap) {b : Nat} {r : Row} (hb : s.h.get b = some (.row r)) :
    Post ρ s w.heap ρ ⟨s.h.set b (.row { r with leaf := false }), s.nx⟩ w.heap where
  ext _ _ := rfl
  nx := Nat.le_refl _
  rel := by
    have := h.seal hb
    refine this.congr (fun c => ?_) (Nat.le_refl _)
    exact T.get_set _ _ _ _
  sz := Nat.le_refl _
  frame _ _ _ := rfl
  wrs c x p hx hw hp _ := by
    simp only [T.get_set] at hx
    split at hx
    · cases hx; cases hw
    · exact ⟨c, x, p, hx, hw, hp, rfl⟩
  alv c x p hx hw hp _ := by
    simp only [T.get_set] at hx
    split at hx
    · rename_i e; subst e; exact ⟨c, _, p, hb, rfl, hp, rfl⟩
    · exact ⟨c, x, p, hx, hw, hp, rfl⟩

theorem grow_ok (h : HRel ρ s.h.get s.nx w.heap) {l : List C} {vs : List Value} (hl : LRel ρ l vs) {el : TypeId} {n cp z : Nat} (hz : 1 ≤ z) (hn : vs.length = n * z) (hc : n ≤ cp) {zs : Array Value} (hzs : zs.size = z)
    {sh : Nat} {anc : List Nat} (hsh : sh ≤ n * z) :
    ∃ ρ', Post ρ s w.heap ρ' (s.new (.row { mkRow l with sh := sh, anc := anc })) (w.heap.push (.cells (vs.toArray ++ Builtin.zeroCells zs (cp - n)) el)) ∧
      CRel ρ' (.sl s.nx 0 n none z) (.slice (some ⟨w.heap.size, 0, none⟩) n cp) := by
  have hll := hl.length
  have hs : (vs.toArray ++ Builtin.zeroCells zs (cp - n)).size = cp * z := by
    simp [size_zeroCells, hzs, hn, ← Nat.add_mul]; congr 1; omega
  have hrow : BlkRel ρ ⟨w.heap.size, 0, cp * z, l.length⟩ (.row { mkRow l with sh := sh, anc := anc }) (.cells (vs.toArray ++ Builtin.zeroCells zs (cp - n)) el) := by
    have := row_new (ρ := ρ) (l := l) (cells := vs.toArray ++ Builtin.zeroCells zs (cp - n)) (el := el) (fz := (0, 0)) (c := w.heap.size) (by rw [hll]; simpa using hl) (by simp; omega) (fun j _ => by simp)
    rw [hs] at this
    obtain ⟨arr, e', fz, q1, q2⟩ := this
    cases q1
    refine ⟨_, _, _, rfl, ⟨q2.tot, q2.kn, q2.le, ?_, q2.cell, q2.free, fun _ _ => q2.mark rfl rfl⟩⟩
    show sh ≤ lenA l 0
    rw [lenA_zero]; omega
  refine ⟨ρ.put s.nx ⟨w.heap.size, 0, cp * z, l.length⟩, Post.new h _ _ _ rfl hrow, ?_⟩
  refine ⟨_, ⟨w.heap.size, 0, none⟩, cp, if_pos rfl, rfl, ⟨by omega, hc, fun k hk => (by cases hk), fun _ => ⟨?_, .inl rfl⟩, ?_, ?_⟩⟩
  · show l.length ≤ 0 + cp * z
    have : n * z ≤ cp * z := Nat.mul_le_mul_right _ hc
    omega
  · show 0 + 0 + cp * z ≤ cp * z; omega
  · show 0 + n * z ≤ l.length; omega

theorem extend_ok (h : HRel ρ s.h.get s.nx w.heap) {b o n m z : Nat} {r : Row} {p : Place} (hb : s.h.get b = some (.row r)) (hlf : r.leaf = true) (hp : ρ b = some p) (hon : o + n * z = r.n)
    {lo ln : List C} {news : List Value} (hlo : r.q.getL (n * z) o = some lo) (hln : LRel ρ ln news) (hm : news.length = m * z) (htot : p.o + o + (n + m) * z ≤ p.tot) :
    ∃ w', (storeCells ⟨p.c, p.o + o + n * z, none⟩ news).run P w = .ok () w' ∧
      Post ρ s w.heap (ρ.put s.nx ⟨p.c, p.o + o, p.tot, (n + m) * z⟩) (St.new ⟨s.h.set b (.row { r with leaf := false }), s.nx⟩ (.row { mkRow (lo ++ ln) with sh := n * z, anc := b :: r.anc })) w'.heap ∧ Same w w' := by
  obtain ⟨p0, ob, e1, e2, arr, ty, fz, e3, hrow⟩ := h.blk b _ hb rfl
  rw [hp] at e1; cases e1; subst e3
  have hrt := hrow.tot
  have hrl := hrow.le
  have hrsh := hrow.sh
  have hnm : (n + m) * z = n * z + m * z := Nat.add_mul _ _ _
  have hbn := h.dom b p hp
  obtain ⟨g0, g2'⟩ := T.getL_some hlo
  obtain ⟨olds, k1, k2, k3⟩ := getL_rel hrow (by omega) hlo
  obtain ⟨arr', g1, g2, g3, g4, g5⟩ := setCells_heap p.c ty fz news (p.o + o + n * z) w arr e2 (by omega)
  refine ⟨_, run_setCells (P := P) e2 (by omega) (fun j h1 h2 => hrow.free hlf j (by omega) (by omega)) hln.one, ?_, setCells_same _ _ _ _⟩
  have hlen : (lo ++ ln).length = (n + m) * z := by have := hln.length; simp; omega
  have hlook : ∀ c, (St.new ⟨s.h.set b (.row { r with leaf := false }), s.nx⟩ (.row { mkRow (lo ++ ln) with sh := n * z, anc := b :: r.anc })).h.get c =
      if c = s.nx then some (.row { mkRow (lo ++ ln) with sh := n * z, anc := b :: r.anc }) else if c = b then some (.row { r with leaf := false }) else s.h.get c := by
    intro c
    rw [St.new_h]
    show (if c = s.nx then _ else (s.h.set b _).get c) = _
    rw [T.get_set]
  have hfresh := h.fresh (Nat.le_refl s.nx)
  have hcs : p.c < w.heap.size := (Array.getElem?_eq_some_iff.1 e2).1
  have hnew : BlkRel (ρ.put s.nx ⟨p.c, p.o + o, p.tot, (n + m) * z⟩) ⟨p.c, p.o + o, p.tot, (n + m) * z⟩ (.row { mkRow (lo ++ ln) with sh := n * z, anc := b :: r.anc }) (.cells arr' ty fz) := by
    refine ⟨arr', ty, fz, rfl, ⟨by rw [g3, hrt], by show lenA (lo ++ ln) 0 = _; rw [lenA_zero, hlen], ?_, ?_, ?_, (fun _ j h1 h2 => hrow.free hlf j (by have : p.o + o ≤ j := h1; omega) h2), (fun _ ha => by cases ha)⟩⟩
    · show p.o + o + lenA (lo ++ ln) 0 ≤ p.tot
      rw [lenA_zero, hlen]; exact htot
    · show n * z ≤ lenA (lo ++ ln) 0
      rw [lenA_zero, hlen]; omega
    · intro i x hi hx
      have hi' : i < (n + m) * z := by have : i < lenA (lo ++ ln) 0 := hi; rwa [lenA_zero, hlen] at this
      have hx' : (lo ++ ln)[i]? = some x := by have : (T.ofL (lo ++ ln)).get i = some x := hx; rwa [T.get_ofL] at this
      rw [List.getElem?_append] at hx'
      show ∃ v, arr'[p.o + o + i]? = some v ∧ _
      rw [g4]
      by_cases hin : i < lo.length
      · rw [if_pos hin] at hx'
        rw [if_neg (by omega)]
        have hq := g2' i (by omega)
        rw [hx'] at hq
        obtain ⟨v, u1, u2⟩ := hrow.cell (o + i) x (by omega) hq
        exact ⟨v, by rw [Nat.add_assoc]; exact u1, u2.mono (Mp.le_put hfresh)⟩
      · rw [if_neg hin] at hx'
        rw [if_pos (by omega)]
        obtain ⟨v, u1, u2⟩ := hln.get hx'
        exact ⟨v, by rw [show p.o + o + i - (p.o + o + n * z) = i - lo.length by omega]; exact u1, u2.mono (Mp.le_put hfresh)⟩
  have hold : ∀ c, c < s.nx → (ρ.put s.nx ⟨p.c, p.o + o, p.tot, (n + m) * z⟩) c = ρ c := fun c hc => by simp [Mp.put]; omega
  have lt : ∀ c x, c ≠ s.nx → s.h.get c = some x → alive x = true → ∃ q, ρ c = some q ∧ c < s.nx := fun c x _ hx ha => by
    obtain ⟨q, _, u1, _⟩ := h.blk c x hx ha
    exact ⟨q, u1, h.dom c q u1⟩
  have hrel : HRel (ρ.put s.nx ⟨p.c, p.o + o, p.tot, (n + m) * z⟩) (St.new ⟨s.h.set b (.row { r with leaf := false }), s.nx⟩ (.row { mkRow (lo ++ ln) with sh := n * z, anc := b :: r.anc })).h.get
      (s.nx + 1) (w.setCells p.c (p.o + o + n * z) news).heap := by
    refine ⟨?_, ?_, ?_⟩
    · intro c q hq
      unfold Mp.put at hq
      split at hq
      · omega
      · have := h.dom c q hq; omega
    · intro c x hx ha
      rw [hlook] at hx
      by_cases c1 : c = s.nx
      · rw [if_pos c1] at hx; cases hx; subst c1
        exact ⟨_, _, if_pos rfl, g2, hnew⟩
      · rw [if_neg c1] at hx
        by_cases c2 : c = b
        · rw [if_pos c2] at hx; cases hx; subst c2
          refine ⟨p, _, by rw [hold _ hbn]; exact hp, g2, arr', ty, fz, rfl, ⟨by rw [g3, hrt], hrow.kn, hrl, hrsh, ?_, (fun hh => by cases hh), (fun hh => by cases hh)⟩⟩
          intro i x hi hx
          rw [g4, if_neg (by have : i < r.n := hi; omega)]
          obtain ⟨v, u1, u2⟩ := hrow.cell i x hi hx
          exact ⟨v, u1, u2.mono (Mp.le_put hfresh)⟩
        · rw [if_neg c2] at hx
          obtain ⟨q, ob, u1, u2, u3⟩ := h.blk c x hx ha
          have hcn := h.dom c q u1
          by_cases hc : q.c = p.c
          · obtain ⟨r1, r2, s1, s2, s3, s4, s5⟩ := h.apart b _ c x p q hb hlf hx ha c2 hp u1 hc.symm
            cases s1; subst s2
            obtain ⟨arr2, e2', fz2, v1, v2⟩ := u3
            rw [hc, e2] at u2; cases u2; cases v1
            refine ⟨q, _, by rw [hold _ hcn]; exact u1, by rw [hc]; exact g2, arr', ty, fz, rfl, ⟨by rw [g3]; exact v2.tot, v2.kn, v2.le, v2.sh, ?_, (fun hh => by rw [s3] at hh; cases hh), (fun hh => by rw [s3] at hh; cases hh)⟩⟩
            intro i y hi hy
            rw [g4, if_neg (by omega)]
            obtain ⟨v, t1, t2⟩ := v2.cell i y hi hy
            exact ⟨v, t1, t2.mono (Mp.le_put hfresh)⟩
          · exact ⟨q, ob, by rw [hold _ hcn]; exact u1, by rw [g5 _ hc]; exact u2, u3.mono (Mp.le_put hfresh)⟩
    · intro c1 x1 c2 x2 p1 p2 hx1 hw hx2 ha hne hp1 hp2 hc
      rw [hlook] at hx1 hx2
      by_cases d1 : c1 = s.nx
      · rw [if_pos d1] at hx1; cases hx1; subst d1
        have : p1 = ⟨p.c, p.o + o, p.tot, (n + m) * z⟩ := by rw [Mp.put, if_pos rfl] at hp1; cases hp1; rfl
        subst this
        rw [if_neg hne] at hx2
        rw [Mp.put, if_neg hne] at hp2
        by_cases d2 : c2 = b
        · rw [if_pos d2] at hx2; cases hx2; subst d2
          rw [hp] at hp2; cases hp2
          refine ⟨_, _, rfl, rfl, rfl, ?_, List.mem_cons_self⟩
          show p.o + r.n ≤ p.o + o + n * z
          omega
        · rw [if_neg d2] at hx2
          obtain ⟨r1, r2, s1, s2, s3, s4, s5⟩ := h.apart b _ c2 x2 p p2 hb hlf hx2 ha d2 hp hp2 hc
          cases s1; subst s2
          refine ⟨_, _, rfl, rfl, s3, ?_, List.mem_cons_of_mem _ s5⟩
          show p2.o + r2.n ≤ p.o + o + n * z
          omega
      · rw [if_neg d1] at hx1
        rw [Mp.put, if_neg d1] at hp1
        by_cases d1b : c1 = b
        · rw [if_pos d1b] at hx1; cases hx1; cases hw
        · rw [if_neg d1b] at hx1
          by_cases d2 : c2 = s.nx
          · rw [if_pos d2] at hx2; cases hx2; subst d2
            have : p2 = ⟨p.c, p.o + o, p.tot, (n + m) * z⟩ := by rw [Mp.put, if_pos rfl] at hp2; cases hp2; rfl
            subst this
            obtain ⟨r1, r2, s1, s2, s3, _⟩ := h.apart c1 x1 b _ p1 p hx1 hw hb rfl (Ne.symm d1b) hp1 hp hc
            cases s2; rw [hlf] at s3; cases s3
          · rw [if_neg d2] at hx2
            rw [Mp.put, if_neg d2] at hp2
            by_cases d2b : c2 = b
            · rw [if_pos d2b] at hx2; cases hx2; subst d2b
              rw [hp] at hp2; cases hp2
              obtain ⟨r1, r2, s1, s2, s3, _⟩ := h.apart c1 x1 c2 _ p1 p hx1 hw hb rfl hne hp1 hp hc
              cases s2; rw [hlf] at s3; cases s3
            · rw [if_neg d2b] at hx2
              exact h.apart c1 x1 c2 x2 p1 p2 hx1 hw hx2 ha hne hp1 hp2 hc
  refine ⟨fun c hc => hold c hc, by rw [St.new_nx]; exact Nat.le_succ _, by rw [St.new_nx]; exact hrel, Nat.le_of_eq g1.symm, ?_, ?_, ?_⟩
  · intro c hc hn
    exact g5 c (fun e => hn b _ p hb hlf hp e.symm)
  · intro c x q hx hw hq hcc
    rw [hlook] at hx
    by_cases c1 : c = s.nx
    · rw [Mp.put, if_pos c1] at hq; cases hq
      exact ⟨b, _, p, hb, hlf, hp, rfl⟩
    · rw [if_neg c1] at hx
      rw [Mp.put, if_neg c1] at hq
      by_cases c2 : c = b
      · rw [if_pos c2] at hx; cases hx; cases hw
      · rw [if_neg c2] at hx; exact ⟨c, x, q, hx, hw, hq, rfl⟩
  · intro c x q hx hw hq hcc
    rw [hlook] at hx
    by_cases c1 : c = s.nx
    · rw [Mp.put, if_pos c1] at hq; cases hq
      exact ⟨b, _, p, hb, rfl, hp, rfl⟩
    · rw [if_neg c1] at hx
      rw [Mp.put, if_neg c1] at hq
      by_cases c2 : c = b
      · rw [if_pos c2] at hx; subst c2; exact ⟨c, _, q, hb, rfl, hq, rfl⟩
      · rw [if_neg c2] at hx; exact ⟨c, x, q, hx, hw, hq, rfl⟩

end
end Ev
