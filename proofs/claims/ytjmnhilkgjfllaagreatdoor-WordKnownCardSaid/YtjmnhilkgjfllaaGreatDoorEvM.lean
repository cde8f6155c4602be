import Derived.Test.YtjmnhilkgjfllaaGreatDoorEvL
import Derived.MapKept
import Derived.Laws.BytesString
import Derived.Laws.Cover4
set_option linter.unusedVariables false
set_option linter.unusedSimpArgs false
namespace Ev
open Go

section
variable {P : Program} {w : World} {E : Env} {ρ : Mp} {a : A} {e : Operand → Value} {x y : Operand}

/-! ### conversions -/
theorem strOfSl_ok (hE : EnvOk E P) {st : TypeDesc} {el : TypeId} {l : List C} {vs : List Value} (hl : LRel ρ l vs) {d : C} (h : strOfSl E (.slice el) l = some d) :
    ∃ bs : ByteArray, d = .str (Str.of bs) ∧ ((P.underlying el = some (.int .u8) ∧ ∃ ns : List Int, vs = ns.map (Value.int .u8) ∧ bs = ns.foldl (fun r n => r.push (UInt8.ofNat n.toNat)) ByteArray.empty) ∨
      (P.underlying el = some (.int .i32) ∧ ∃ ns : List Int, vs = ns.map (Value.int .i32) ∧ bs = runesBytes ns)) := by
  unfold strOfSl at h
  simp only [] at h
  cases hu : undT E el with
  | none => rw [hu] at h; cases h
  | some ty =>
    have hu' := (undT_some hE hu).1
    rw [hu] at h
    cases ty <;> (try simp only [] at h) <;> try (cases h; done)
    rename_i k
    cases k <;> (try simp only [] at h) <;> try (cases h; done)
    case u8 =>
      cases hz : strOfBytes l Str.nil with
      | none => rw [hz] at h; cases h
      | some z =>
        rw [hz] at h
        cases h
        obtain ⟨bs, rfl, rfl⟩ := strOfBytes_ok l vs ByteArray.empty z hl hz
        refine ⟨_, rfl, .inl ⟨hu', bs.map (fun b => (b.toNat : Int)), by simp, ?_⟩⟩
        rw [List.foldl_map]
        have key : ∀ (bs : List UInt8) (acc : ByteArray), (⟨acc.data ++ bs.toArray⟩ : ByteArray) = bs.foldl (fun r n => r.push (UInt8.ofNat (n.toNat : Int).toNat)) acc := by
          intro bs
          induction bs with
          | nil => intro acc; simp
          | cons b bs ih =>
            intro acc
            rw [List.foldl_cons, ← ih]
            simp [ByteArray.push]
        exact key bs _
    case i32 =>
      cases hz : strOfRunes l Str.nil with
      | none => rw [hz] at h; cases h
      | some z =>
        rw [hz] at h
        cases h
        obtain ⟨rs, rfl, rfl⟩ := strOfRunes_ok l vs ByteArray.empty z hl hz
        exact ⟨_, rfl, .inr ⟨hu', rs, rfl, rfl⟩⟩

theorem convert_ok (hE : EnvOk E P) {look : Look} (h : Sees ρ look w.heap) (hx : OpRel ρ a e x) {s d : TypeId} {v : V} (hr : rConvert E look a s d x = some v) :
    ∃ u, (Go.convert s d (e x)).run P w = .ok u w ∧ VRel ρ v u := by
  unfold rConvert at hr
  cases hc : opC a x with
  | none => rw [hc] at hr; cases hr
  | some c =>
    rw [hc] at hr
    simp only [] at hr
    obtain ⟨r, hq, rfl⟩ := obC hr
    clear hr
    have hcx := toC_rel hx hc
    unfold convert at hq
    cases h1 : undT E s with
    | none => rw [h1] at hq; cases hq
    | some ts =>
      rw [h1] at hq
      have h1' := (undT_some hE h1).1
      simp only [] at hq
      cases h2 : undT E d with
      | none => rw [h2] at hq; cases hq
      | some td =>
        rw [h2] at hq
        have h2' := (undT_some hE h2).1
        simp only [] at hq
        unfold convTo at hq
        cases td <;> simp only [] at hq <;> try (cases hq; done)
        case int k =>
          cases c <;> simp only [] at hq <;> try (cases hq; done)
          rename_i k' n
          rw [intC_eq, wrapK_eq] at hq
          cases hq
          have ex : e x = .int k' n := hcx
          refine ⟨.int k (k.wrap n), ?_, rfl⟩
          unfold Go.convert
          simp only [Sem.run_bind, run_und h1', run_und h2', Result.andThen_ok, ex]
          rfl
        case string =>
          cases c <;> simp only [] at hq <;> try (cases hq; done)
          case int k' n =>
            cases hq
            have ex : e x = .int k' n := hcx
            refine ⟨.string (Utf8.encode n), ?_, ⟨_, rfl, enc_eq n⟩⟩
            unfold Go.convert
            simp only [Sem.run_bind, run_und h1', run_und h2', Result.andThen_ok, ex]
            rfl
          case str z =>
            cases hq
            obtain ⟨bs, ex, rfl⟩ := hcx
            refine ⟨.string bs, ?_, ⟨_, rfl, rfl⟩⟩
            unfold Go.convert
            simp only [Sem.run_bind, run_und h1', run_und h2', Result.andThen_ok, ex]
            rfl
          case nils =>
            cases ts <;> try (simp only [strOfSl] at hq; cases hq; done)
            rename_i el
            obtain ⟨bs, rfl, hb⟩ := strOfSl_ok hE (st := .bool) (.nil : LRel ρ [] []) hq
            have ex : e x = .slice none 0 0 := hcx
            rw [ex]
            rcases hb with ⟨g1, ns, g2, rfl⟩ | ⟨g1, ns, g2, rfl⟩
            · have : ns = [] := by simpa using g2.symm
              subst this
              exact ⟨_, by rw [run_convert_bytes_string w s d el _ _ _ h1' g1 h2']; rfl, ⟨_, rfl, rfl⟩⟩
            · have : ns = [] := by simpa using g2.symm
              subst this
              exact ⟨_, by rw [run_convert_runes_string w s d el _ _ _ h1' g1 h2']; rfl, ⟨_, rfl, rfl⟩⟩
          case sl b o n cap z =>
            cases hl : readL look b o n with
            | none => rw [hl] at hq; cases hq
            | some l =>
              rw [hl] at hq
              simp only [] at hq
              cases ts <;> try (simp only [strOfSl] at hq; cases hq; done)
              rename_i el
              obtain ⟨p, ad, cp, hp, ex, hs⟩ := hcx
              obtain ⟨vs, hvs, hrun⟩ := run_readL (P := P) h hl hp
              have hrun' : (loadCells ad n).run P w = .ok vs.toArray w := by
                by_cases hn : n = 0
                · subst hn; exact hrun
                · rw [sl_ad hs (by have := hs.le; omega)]; exact hrun
              obtain ⟨bs, rfl, hb⟩ := strOfSl_ok hE (st := .bool) hvs hq
              rw [ex]
              rcases hb with ⟨g1, ns, rfl, rfl⟩ | ⟨g1, ns, rfl, rfl⟩
              · exact ⟨_, by rw [run_convert_bytes_string w s d el _ _ _ h1' g1 h2', run_bytesToString w ad n cp ns hrun'], ⟨_, rfl, rfl⟩⟩
              · exact ⟨_, by rw [run_convert_runes_string w s d el _ _ _ h1' g1 h2', run_runesToString w ad n cp ns hrun'], ⟨_, rfl, rfl⟩⟩

/-! ### maps -/
theorem keyOk_some (hE : EnvOk E P) {kt : TypeId} {k : C} (h : keyOk E kt k = true) : ∃ d, P.underlying kt = some d ∧ (((∃ j, d = .int j) ∧ ∃ j n, k = .int j n) ∨ (d = .string ∧ ∃ s, k = .str s)) := by
  unfold keyOk at h
  cases hu : undT E kt with
  | none => rw [hu] at h; cases h
  | some d =>
    rw [hu] at h
    refine ⟨d, (undT_some hE hu).1, ?_⟩
    cases d <;> simp only [] at h <;> try (cases h; done)
    · cases k <;> simp only [] at h <;> try (cases h; done)
      exact .inl ⟨⟨_, rfl⟩, _, _, rfl⟩
    · cases k <;> simp only [] at h <;> try (cases h; done)
      exact .inr ⟨rfl, _, rfl⟩

theorem same_key {d : TypeDesc} {k c : C} {u v : Value} (hd : ((∃ j, d = .int j) ∧ ∃ j n, k = .int j n) ∨ (d = .string ∧ ∃ s, k = .str s)) (hk : CRel ρ k u) (hc : CRel ρ c v) :
    (∀ j a j' b, k = .int j a → c = .int j' b → kEq j j' = true → Instr.sameNow d u v = some (iEq a b) ∧ (iEq a b = true → v = u)) ∧
    (∀ a b, k = .str a → c = .str b → Instr.sameNow d u v = some (a.eq b) ∧ (a.eq b = true → v = u)) := by
  refine ⟨?_, ?_⟩
  · intro j a j' b hk' hc' hj
    subst hk' hc'
    have e1 : u = .int j a := hk
    have e2 : v = .int j' b := hc
    rw [kEq_iff] at hj
    subst e1 e2 hj
    rcases hd with ⟨⟨i, rfl⟩, _⟩ | ⟨_, s, hs⟩
    · simp only [Instr.sameNow, if_true]
      rw [iEq_eq]
      refine ⟨by simp [BEq.beq], fun h => by simp at h; rw [h]⟩
    · cases hs
  · intro a b hk' hc'
    subst hk' hc'
    obtain ⟨s, rfl, rfl⟩ := hk
    obtain ⟨t, rfl, rfl⟩ := hc
    rcases hd with ⟨_, _, _, hs⟩ | ⟨rfl, _⟩
    · cases hs
    · rw [str_eq]
      have hb : (s == t) = (s.toList == t.toList) := by
        rw [Bool.eq_iff_iff, MapKept.bytes_beq]
        simp only [beq_iff_eq, toList_eq]
        constructor
        · intro h; rw [h]
        · intro h; obtain ⟨⟨s⟩⟩ := s; obtain ⟨⟨t⟩⟩ := t; simp at h; rw [h]
      refine ⟨by simp only [Instr.sameNow, hb], fun h => ?_⟩
      rw [← hb, MapKept.bytes_beq] at h
      rw [h]

theorem find_ok {d : TypeDesc} {k : C} {u : Value} (hd : ((∃ j, d = .int j) ∧ ∃ j n, k = .int j n) ∨ (d = .string ∧ ∃ s, k = .str s)) (hk : CRel ρ k u) :
    ∀ (es : List (C × W)) (arr : List MapEntry) (i : Nat) (r : Option W), All2 (EntRel ρ) es arr → findK k es = some r →
      (r = none → Instr.findNow d u arr i = some none) ∧ (∀ v, r = some v → ∃ j x, Instr.findNow d u arr i = some (some (j, x)) ∧ WRel ρ v x) := by
  intro es
  induction es with
  | nil => intro arr i r ha h; cases ha; simp only [findK, Option.some.injEq] at h; subst h; exact ⟨fun _ => rfl, fun v hv => by cases hv⟩
  | cons p es ih =>
    intro arr i r ha h
    obtain ⟨c, v⟩ := p
    cases ha with
    | cons h1 h2 =>
      rename_i en arr
      obtain ⟨hc, hv⟩ := h1
      obtain ⟨s1, s2⟩ := same_key hd hk hc
      simp only [findK] at h
      cases k <;> cases c <;> simp only [] at h <;> try (cases h; done)
      case int.int j a j' b =>
        cases hj : kEq j j' with
        | false => rw [hj] at h; cases h
        | true =>
          rw [hj] at h
          simp only [] at h
          obtain ⟨q1, q2⟩ := s1 j a j' b rfl rfl hj
          cases hi : iEq a b with
          | true =>
            rw [hi] at h q1
            cases h
            refine ⟨(fun h => by cases h), fun v' hv' => ⟨i, en.val, ?_, ?_⟩⟩
            · simp only [Instr.findNow, q1]
            · cases hv'; exact hv
          | false =>
            rw [hi] at h q1
            simp only [] at h
            obtain ⟨g1, g2⟩ := ih arr (i + 1) r h2 h
            simp only [Instr.findNow, q1]
            exact ⟨g1, g2⟩
      case str.str a b =>
        obtain ⟨q1, q2⟩ := s2 a b rfl rfl
        cases hi : a.eq b with
        | true =>
          rw [hi] at h q1
          cases h
          refine ⟨(fun h => by cases h), fun v' hv' => ⟨i, en.val, ?_, ?_⟩⟩
          · simp only [Instr.findNow, q1]
          · cases hv'; exact hv
        | false =>
          rw [hi] at h q1
          simp only [] at h
          obtain ⟨g1, g2⟩ := ih arr (i + 1) r h2 h
          simp only [Instr.findNow, q1]
          exact ⟨g1, g2⟩

theorem checkKey_ok {d : TypeDesc} {kt : TypeId} (hd : P.underlying kt = some d) (hp : (∃ j, d = .int j) ∨ d = .string) (em : Bool) (n : Nat) (u : Value) : (Instr.checkKey em (n + 1) kt u).run P w = .ok () w := by
  unfold Instr.checkKey
  simp only [Sem.run_bind, run_und hd, Result.andThen_ok]
  rcases hp with ⟨j, rfl⟩ | rfl <;> cases u <;> rfl

theorem lookup_ok (hE : EnvOk E P) {look : Look} (h : Sees ρ look w.heap) {m k : Operand} (hm : OpRel ρ a e m) (hk : OpRel ρ a e k) {t : TypeId} {ok : Bool} {v : V} (hr : rLookup E look a t m k ok = some v) :
    ∃ u, (Instr.lookup t (e m) (e k) ok).run P w = .ok u w ∧ VRel ρ v u := by
  unfold rLookup at hr
  cases h1 : opC a m with
  | none => rw [h1] at hr; cases hr
  | some cm =>
    rw [h1] at hr
    simp only [] at hr
    cases h2 : opC a k with
    | none => rw [h2] at hr; cases hr
    | some ck =>
      rw [h2] at hr
      simp only [] at hr
      have hcm := toC_rel hm h1
      have hck := toC_rel hk h2
      unfold lookup at hr
      cases hu : undT E t with
      | none => rw [hu] at hr; cases hr
      | some ty =>
        rw [hu] at hr
        have hu' := (undT_some hE hu).1
        cases ty <;> simp only [] at hr <;> try (cases hr; done)
        rename_i kt el
        cases hko : keyOk E kt ck with
        | false => rw [hko] at hr; cases hr
        | true =>
          rw [hko] at hr
          simp only [] at hr
          obtain ⟨d, hd, hdk⟩ := keyOk_some hE hko
          cases hes : mapEs look cm with
          | none => rw [hes] at hr; cases hr
          | some es =>
            rw [hes] at hr
            simp only [] at hr
            unfold lookEs at hr
            cases hj : E.tab.get el with
            | none => rw [hj] at hr; cases hr
            | some j =>
              rw [hj] at hr
              simp only [] at hr
              cases hz : j.zero with
              | none => rw [hz] at hr; cases hr
              | some z =>
                rw [hz] at hr
                simp only [] at hr
                cases hf : findK ck es with
                | none => rw [hf] at hr; cases hr
                | some r =>
                  rw [hf] at hr
                  simp only [] at hr
                  obtain ⟨zv, z1, z2, z3⟩ := zero_ok (ρ := ρ) hE hj hz
                  have hmap : ∃ arr : Array MapEntry, All2 (EntRel ρ) es arr.toList ∧ ((e m = .map none ∧ arr = #[]) ∨ ∃ r clk, e m = .map (some r) ∧ w.heap[r]? = some (.map arr clk)) := by
                    cases cm <;> simp only [mapEs] at hes <;> try (cases hes; done)
                    case nilm =>
                      have ex : e m = .map none := hcm
                      cases hes
                      exact ⟨#[], .nil, .inl ⟨ex, rfl⟩⟩
                    case map q =>
                      cases hl : look q with
                      | none => rw [hl] at hes; cases hes
                      | some b =>
                        rw [hl] at hes
                        cases b <;> simp only [] at hes <;> try (cases hes; done)
                        cases hes
                        obtain ⟨p, ex, hp⟩ := hcm
                        obtain ⟨ob, q2, arr, clk, rfl, q3⟩ := h q _ p hl rfl ex
                        exact ⟨arr, q3, .inr ⟨_, _, hp, q2⟩⟩
                  obtain ⟨arr, ha, hrun⟩ := hmap
                  have hdp : (∃ j, d = .int j) ∨ d = .string := by rcases hdk with ⟨h, _⟩ | ⟨h, _⟩; exact .inl h; exact .inr h
                  obtain ⟨g1, g2⟩ := find_ok hdk hck es arr.toList 0 r ha hf
                  have main : ∀ (vv : Value) (b : Bool), ((∃ j, Instr.findNow d (e k) arr.toList 0 = some (some (j, vv)) ∧ b = true) ∨ (Instr.findNow d (e k) arr.toList 0 = some none ∧ b = false ∧ ∀ w : World, (zeroValue el).run P w = .ok vv w)) →
                      (Instr.lookup t (e m) (e k) ok).run P w = .ok (if ok then .tuple #[vv, .bool b] else vv) w := by
                    intro vv b hq
                    unfold Instr.lookup Instr.findKey
                    rcases hrun with ⟨ex, rfl⟩ | ⟨r, clk, ex, hh⟩ <;> rcases hq with ⟨j, hq, rfl⟩ | ⟨hq, rfl, hq2⟩
                    · simp only [Sem.run_bind, run_und hu', run_und hd, Result.andThen_ok, ex, Sem.run_pure, checkKey_ok hd hdp, hq]
                    · simp only [Sem.run_bind, run_und hu', run_und hd, Result.andThen_ok, ex, Sem.run_pure, checkKey_ok hd hdp, hq, hq2]
                    · simp only [Sem.run_bind, run_und hu', run_und hd, Result.andThen_ok, ex, Sem.run_pure, checkKey_ok hd hdp, hq, MapKept.run_getObj_map hh]
                    · simp only [Sem.run_bind, run_und hu', run_und hd, Result.andThen_ok, ex, Sem.run_pure, checkKey_ok hd hdp, hq, hq2, MapKept.run_getObj_map hh]
                  unfold lookRes at hr
                  cases r with
                  | some wv =>
                    obtain ⟨jj, xv, f1, f2⟩ := g2 wv rfl
                    have := main xv true (.inl ⟨_, f1, rfl⟩)
                    refine ⟨_, this, ?_⟩
                    cases ok <;> simp only [] at hr <;> cases hr
                    · exact f2
                    · exact ⟨_, rfl, .cons f2 (.cons rfl .nil)⟩
                  | none =>
                    have f1 := g1 rfl
                    have := main zv false (.inr ⟨f1, rfl, z1⟩)
                    refine ⟨_, this, ?_⟩
                    simp only [] at hr
                    cases hw : mkW j.isAgg z with
                    | none => rw [hw] at hr; cases hr
                    | some ww =>
                      rw [hw] at hr
                      have hzw := z2 ww hw
                      cases ok <;> simp only [] at hr <;> cases hr
                      · exact hzw
                      · exact ⟨_, rfl, .cons hzw (.cons rfl .nil)⟩

/-! ### type assertions -/
theorem typeAssert_ok (hE : EnvOk E P) (hx : OpRel ρ a e x) {t xt : TypeId} {ok : Bool} {v : V} (hr : rTypeAssert E a x t ok = some v) :
    ∃ u, (Instr.typeAssert (e x) xt t ok).run P w = .ok u w ∧ VRel ρ v u := by
  unfold rTypeAssert at hr
  cases hn : notIface E t with
  | false => rw [hn] at hr; cases hr
  | true =>
    rw [hn] at hr
    simp only [] at hr
    obtain ⟨d, hd, hd2⟩ := notIface_ok hE hn
    have no : ∀ v, tAssNo E t ok = some v → ok = true ∧ ∃ zv, (zeroValue t).run P w = .ok zv w ∧ VRel ρ v (.tuple #[zv, .bool false]) := by
      intro v hv
      unfold tAssNo at hv
      cases hi : E.tab.get t with
      | none => rw [hi] at hv; cases hv
      | some i =>
        rw [hi] at hv
        simp only [] at hv
        cases hz : i.zero with
        | none => rw [hz] at hv; cases hv
        | some z =>
          rw [hz] at hv
          simp only [] at hv
          cases hw : mkW i.isAgg z with
          | none => rw [hw] at hv; cases hv
          | some ww =>
            rw [hw] at hv
            obtain ⟨zv, z1, z2, _⟩ := zero_ok (ρ := ρ) hE hi hz
            cases ok <;> simp only [tAssRes] at hv <;> cases hv
            exact ⟨rfl, zv, z1 w, ⟨_, rfl, .cons (z2 ww hw) (.cons rfl .nil)⟩⟩
    have yes : ∀ ww v u, tAssRes ok true ww = some v → WRel ρ ww u → VRel ρ v (if ok then .tuple #[u, .bool true] else u) := by
      intro ww v u hv hw
      cases ok <;> simp only [tAssRes] at hv <;> cases hv
      · exact hw
      · exact ⟨_, rfl, .cons hw (.cons rfl .nil)⟩
    cases hc : opC a x with
    | none => rw [hc] at hr; cases hr
    | some c =>
      rw [hc] at hr
      have hcx := toC_rel hx hc
      cases c <;> simp only [] at hr <;> try (cases hr; done)
      case nili =>
        obtain ⟨rfl, zv, g1, g2⟩ := no v hr
        have ex : e x = .nilIface := hcx
        refine ⟨_, ?_, g2⟩
        unfold Instr.typeAssert
        simp only [Sem.run_bind, run_und hd, Result.andThen_ok, ex]
        cases d <;> simp only [Sem.run_bind, g1, Result.andThen_ok, if_true, Sem.run_pure] <;> exact absurd rfl (hd2 _)
      case ifc u c =>
        obtain ⟨xv, ex, hxv⟩ := hcx
        cases hb : Nat.beq u t with
        | true =>
          rw [hb] at hr
          have hb' := Nat.eq_of_beq_eq_true hb
          subst hb'
          refine ⟨_, ?_, yes _ _ _ hr hxv⟩
          unfold Instr.typeAssert
          simp only [Sem.run_bind, run_und hd, Result.andThen_ok, ex]
          cases d <;> simp only [if_true, Sem.run_pure] <;> exact absurd rfl (hd2 _)
        | false =>
          rw [hb] at hr
          obtain ⟨rfl, zv, g1, g2⟩ := no v hr
          have hne : u ≠ t := fun h => by subst h; simp at hb
          refine ⟨_, ?_, g2⟩
          unfold Instr.typeAssert
          simp only [Sem.run_bind, run_und hd, Result.andThen_ok, ex]
          cases d <;> simp only [if_neg hne, Sem.run_bind, g1, Result.andThen_ok, if_true, Sem.run_pure] <;> exact absurd rfl (hd2 _)
      case ife u =>
        have ex : e x = .iface u (.agg #[]) := hcx
        cases hb : Nat.beq u t with
        | true =>
          rw [hb] at hr
          have hb' := Nat.eq_of_beq_eq_true hb
          subst hb'
          refine ⟨_, ?_, yes _ _ (.agg #[]) hr ⟨_, rfl, .nil⟩⟩
          unfold Instr.typeAssert
          simp only [Sem.run_bind, run_und hd, Result.andThen_ok, ex]
          cases d <;> simp only [if_true, Sem.run_pure] <;> exact absurd rfl (hd2 _)
        | false =>
          rw [hb] at hr
          obtain ⟨rfl, zv, g1, g2⟩ := no v hr
          have hne : u ≠ t := fun h => by subst h; simp at hb
          refine ⟨_, ?_, g2⟩
          unfold Instr.typeAssert
          simp only [Sem.run_bind, run_und hd, Result.andThen_ok, ex]
          cases d <;> simp only [if_neg hne, Sem.run_bind, g1, Result.andThen_ok, if_true, Sem.run_pure] <;> exact absurd rfl (hd2 _)

end
end Ev
