import Derived.Test.YtnjfcaphpemihaaGreatDoorEwE
import Derived.Lib.Bytealg
import Derived.Below
import Derived.ChangeArms
import Derived.ChangeSlices
import Derived.WideShapes
set_option linter.unusedVariables false
set_option linter.unusedSimpArgs false
namespace Ev
open Go

theorem findB_ok (l : List UInt8) (b : Nat) (hb : b < 256) : ∀ f i, i + f = l.length → findB (Str.ofL l) b f i = (if Lib.indexByte (l.drop i) b.toUInt8 == -1 then -1 else (i : Int) + Lib.indexByte (l.drop i) b.toUInt8) := by
  intro f
  induction f with
  | zero =>
    intro i h
    rw [List.drop_of_length_le (by omega)]; rfl
  | succ f ih =>
    intro i h
    have hi : i < l.length := by omega
    rw [List.drop_eq_getElem_cons hi]
    have step : ∀ (x : UInt8) (r : List UInt8) (c : UInt8), Lib.indexByte (x :: r) c = if x == c then 0 else if Lib.indexByte r c == -1 then -1 else Lib.indexByte r c + 1 := fun _ _ _ => rfl
    have e : (l[i] == b.toUInt8) = Nat.beq l[i].toNat b := by
      rw [Bool.eq_iff_iff, beq_iff_eq]
      constructor
      · intro h; rw [h]; simp [Nat.mod_eq_of_lt hb]
      · intro h
        have := Nat.eq_of_beq_eq_true h
        rw [← this]; simp
    simp only [findB]
    rw [Str.at_ofL l i hi]
    cases hq : Nat.beq l[i].toNat b with
    | true =>
      rw [hq] at e
      have : Lib.indexByte (l[i] :: l.drop (i + 1)) b.toUInt8 = 0 := by rw [step, if_pos e]
      rw [this]
      simp
    | false =>
      rw [hq] at e
      have hs : Lib.indexByte (l[i] :: l.drop (i + 1)) b.toUInt8 = if Lib.indexByte (l.drop (i + 1)) b.toUInt8 == -1 then -1 else Lib.indexByte (l.drop (i + 1)) b.toUInt8 + 1 := by
        rw [step, if_neg (by rw [e]; simp)]
      have hge := Lib.indexByte_ge (l.drop (i + 1)) b.toUInt8
      show findB (Str.ofL l) b f (i + 1) = _
      rw [ih (i + 1) (by omega), hs]
      by_cases h1 : Lib.indexByte (l.drop (i + 1)) b.toUInt8 = -1
      · rw [h1]; simp
      · have e1 : (Lib.indexByte (l.drop (i + 1)) b.toUInt8 == -1) = false := by rw [beq_eq_false_iff_ne]; exact h1
        have h2 : ((Lib.indexByte (l.drop (i + 1)) b.toUInt8 + 1) == -1) = false := by rw [beq_eq_false_iff_ne]; omega
        rw [e1]
        simp only [Bool.false_eq_true, if_false]
        rw [h2]
        simp only [Bool.false_eq_true, if_false]
        omega

theorem HRel.stays {ρ : Mp} {look : Look} {nx : Nat} {H H' : Array Obj} (h : HRel ρ look nx H) (hk : ∀ c, c < H.size → H'[c]? = H[c]?) : HRel ρ look nx H' where
  lies c i v hm := by rw [hk c (h.lies.lt hm)]; exact h.lies c i v hm
  away := h.away
  dom := h.dom
  blk b x hx ha := by
    obtain ⟨p, o, g1, g2, g3⟩ := h.blk b x hx ha
    exact ⟨p, o, g1, by rw [hk _ (Array.getElem?_eq_some_iff.1 g2).1]; exact g2, g3⟩
  apart := h.apart

def ExtCall (P : Program) (ng f : Nat) (x : Ext) : Prop := ∀ (args : List W) (s : St) (v : V) (s' : St) (ρ : Mp) (w : World) (vals : Array Value),
  HRel ρ s.h.get s.nx w.heap → GOk ng ρ → extF x args s = .ok v s' → All2 (WRel ρ) args vals.toList →
  ((callFunc f vals).run P w = .ok (.enter f vals) w ∧ Calls P f vals w (fun e w' => ∃ u, e = .returned u ∧ Done ρ s w v s' u w')) ∨
  (∃ u w', (callFunc f vals).run P w = .ok (.value u) w' ∧ Done ρ s w v s' u w')

def ExtOne (P : Program) (ng f : Nat) (x : Ext) : Prop := match x with
  | .itb _ te => ItBack P f te
  | .itc ts => ItChunk P f ts
  | x => ExtCall P ng f x
theorem extOk_of {P : Program} {ng : Nat} (exts : List (Nat × Ext)) (kps : List (Nat × Nat)) (h : ∀ p ∈ exts, ExtOne P ng p.1 p.2) : ExtOk P (envOf P exts kps) ng := by
  intro f x hx
  have hx : (pairT exts .nil).get f = some x := hx
  rcases pairT_get f _ _ _ hx with g | g
  · cases g
  · have := h _ g
    cases x with
    | itb ts te => intro args s v s' ρ w vals _ _ hr; cases hr
    | itc ts => intro args s v s' ρ w vals _ _ hr; cases hr
    | _ => exact this
theorem itOk_of {P : Program} {ng : Nat} (exts : List (Nat × Ext)) (kps : List (Nat × Nat)) (h : ∀ p ∈ exts, ExtOne P ng p.1 p.2) : ItOk P (envOf P exts kps) := by
  refine ⟨fun f ts te hx => ?_, fun f ts hx => ?_⟩
  · have hx : (pairT exts .nil).get f = some (.itb ts te) := hx
    rcases pairT_get f _ _ _ hx with g | g
    · cases g
    · exact h _ g
  · have hx : (pairT exts .nil).get f = some (.itc ts) := hx
    rcases pairT_get f _ _ _ hx with g | g
    · cases g
    · exact h _ g

theorem ext_indexByte {P : Program} {ng f : Nat} {fn : Func} (hf : P.funcs[f]? = some fn) (hname : (fn.name == "runtime.NumGoroutine") = false) (hb : fn.body.isNone = true) (hn : Extern.findNext fn = none)
    (he : Extern.find fn = some Extern.BytealgIndexByte.indexByte) : ExtOne P ng f .indexByte := by
  intro args s v s' ρ w vals h hg hr hv
  right
  match args, hr with
  | [.c (.str z), .c (.int .u8 (.ofNat b))], hr =>
    have hr : (match Nat.ble (Nat.succ b) 256 with
      | true => VS.ok (vc (.int .i64 (findB z b z.len 0))) s
      | false => .no) = .ok v s' := hr
    cases hble : Nat.ble (Nat.succ b) 256 with
    | false => rw [hble] at hr; cases hr
    | true =>
      rw [hble] at hr
      cases hr
      have hb256 : b < 256 := Nat.le_of_ble_eq_true hble
      obtain ⟨l⟩ := vals
      cases hv with
      | cons h1 h2 =>
        cases h2 with
        | cons h3 h4 =>
          cases h4
          obtain ⟨bs, rfl, rfl⟩ := h1
          have h3 : _ = Value.int .u8 (Int.ofNat b) := h3
          subst h3
          refine ⟨.int .i64 (Lib.indexByte bs.data.toList b.toUInt8), w, ?_, ρ, ⟨Post.refl h, Same.refl w⟩, ?_⟩
          · rw [run_callFunc_extern hf hname hb hn he, Lib.run_indexByteString]
            rfl
          · show Value.int .i64 _ = Value.int .i64 (findB (Str.of bs) b (Str.of bs).len 0)
            rw [Str.of_eq, findB_ok _ b hb256 _ 0 (by show 0 + bs.data.toList.length = _; omega)]
            simp only [List.drop_zero]
            split
            · rename_i h1; simp at h1; rw [h1]
            · simp

theorem ext_clone {P : Program} {ng f : Nat} (hin : ∀ args w, (callFunc f args).run P w = .ok (.enter f args) w)
    (hc : ∀ (s : ByteArray) (w : World), s.size ≤ 281474976710656 → Calls P f #[.string s] w fun e w' => e = .returned (.string s) ∧ RowKit.Below w.heap.size w w') : ExtOne P ng f .same := by
  intro args s v s' ρ w vals h hg hr hv
  left
  refine ⟨hin _ _, ?_⟩
  match args, hr with
  | [.c (.str z)], hr =>
    have hr : (match Nat.ble z.len 281474976710656 with
      | true => VS.ok (vc (.str z)) s
      | false => .no) = .ok v s' := hr
    cases hble : Nat.ble z.len 281474976710656 with
    | false => rw [hble] at hr; cases hr
    | true =>
      rw [hble] at hr
      cases hr
      obtain ⟨l⟩ := vals
      cases hv with
      | cons h1 h2 =>
        cases h2
        obtain ⟨bs, rfl, rfl⟩ := h1
        have hlen : bs.size ≤ 281474976710656 := Nat.le_of_ble_eq_true hble
        refine Calls.mono (hc bs w hlen) ?_
        rintro e w' ⟨rfl, hb⟩
        have hk : ∀ c, c < w.heap.size → w'.heap[c]? = w.heap[c]? := fun c hc => hb.block c hc
        exact ⟨_, rfl, ρ, ⟨⟨Snap.le_refl _, fun _ _ _ h => .inl h, fun _ _ => rfl, Nat.le_refl _, HRel.stays h hk, hb.size, fun c hc _ => hk c hc, fun b x p h1 h2 h3 _ => ⟨b, x, p, h1, h2, h3, rfl⟩, fun b x p h1 h2 h3 _ => ⟨b, x, p, h1, h2, h3, rfl⟩⟩, ⟨hb.os, hb.output, hb.tape⟩⟩, ⟨bs, rfl, rfl⟩⟩

def litC : C → Bool
  | .bool _ => true
  | .int _ _ => true
  | .str _ => true
  | _ => false
theorem litC_rel {c : C} (h : litC c = true) {ρ ρ' : Mp} {v : Value} (hr : CRel ρ c v) : CRel ρ' c v := by
  cases c <;> simp only [litC, Bool.false_eq_true] at h <;> exact hr
theorem plainC_rel {c : C} (h : plainC c = true) {ρ ρ' : Mp} {v : Value} (hr : CRel ρ c v) : CRel ρ' c v := by
  cases c with
  | ifc t c =>
    cases c <;> simp only [plainC, Bool.false_eq_true] at h
    exact hr
  | _ => first | exact hr | (simp only [plainC, Bool.false_eq_true] at h)

theorem rows0_get : ∀ (gs : List (Nat × List C)) (g : Nat) (x : Blk), (rows0 gs).get g = some x → ∃ l, (g, l) ∈ gs ∧ x = .row (row0 l) := by
  intro gs
  induction gs with
  | nil => intro g x h; cases h
  | cons p gs ih =>
    intro g x h
    obtain ⟨g', l⟩ := p
    simp only [rows0, T.get_set] at h
    split at h
    · rename_i e; cases h; subst e; exact ⟨l, by simp, rfl⟩
    · obtain ⟨l', h1, h2⟩ := ih g x h
      exact ⟨l', by simp [h1], h2⟩

def Fits (x y : C) : Prop := y = .unk ∨ x = y
theorem fitL_spec : ∀ {l r : List C}, fitL l r = true → All2 Fits l r
  | [], [], _ => .nil
  | [], _ :: _, h => by simp [fitL] at h
  | _ :: _, [], h => by simp [fitL] at h
  | x :: l, y :: r, h => by
    simp only [fitL] at h
    split at h
    · exact .cons (.inl rfl) (fitL_spec h)
    · cases hc : C.same x y with
      | false => rw [hc] at h; cases h
      | true => rw [hc] at h; exact .cons (.inr (C.same_eq hc)) (fitL_spec h)
theorem fits_rel {x y : C} (h : Fits x y) {ρ : Mp} {v : Value} (hr : CRel ρ x v) : CRel ρ y v := by
  rcases h with rfl | rfl
  · exact CRel.one hr
  · exact hr
theorem rowsAre_spec {look : Look} : ∀ (gs : List (Nat × List C)), rowsAre look gs = true → ∀ g l, (g, l) ∈ gs → ∃ r l', look g = some (.row r) ∧ readR r 0 r.n = some l' ∧ All2 Fits l' l := by
  intro gs
  induction gs with
  | nil => intro _ g l h; simp at h
  | cons p gs ih =>
    intro h g l hm
    obtain ⟨g', l'⟩ := p
    simp only [rowsAre] at h
    cases hb : rowIs look g' l' with
    | false => rw [hb] at h; cases h
    | true =>
      rw [hb] at h
      rcases List.mem_cons.1 hm with e | hm
      · cases e
        unfold rowIs at hb
        cases hr : rowOf look g with
        | none => rw [hr] at hb; cases hb
        | some r =>
          rw [hr] at hb
          simp only [] at hb
          cases hl : readR r 0 r.n with
          | none => rw [hl] at hb; cases hb
          | some l2 =>
            rw [hl] at hb
            simp only [] at hb
            refine ⟨r, l2, ?_, hl, fitL_spec hb⟩
            unfold rowOf at hr
            cases hx : look g with
            | none => rw [hx] at hr; cases hr
            | some x =>
              rw [hx] at hr
              cases x <;> first | (cases hr; rfl) | cases hr
      · exact ih h g l hm

def Mp.cut (ρ : Mp) (ng : Nat) : Mp := ⟨fun g => if g < ng then ρ g else none, ρ.m⟩
theorem Mp.cut_at (ρ : Mp) (ng g : Nat) : (ρ.cut ng) g = if g < ng then ρ g else none := rfl
theorem hrel_rows {ρ : Mp} {look : Look} {nx ng : Nat} {H : Array Obj} (h : HRel ρ look nx H) (gs : List (Nat × List C)) (hgs : gs.all (fun p => and (p.2.all plainC) (decide (p.1 < ng))) = true) (ha : rowsAre look gs = true) :
    HRel (ρ.cut ng) (st0 gs ng).h.get (st0 gs ng).nx H where
  lies := h.lies
  away b x p hx hw := by
    obtain ⟨l, _, rfl⟩ := rows0_get gs b x hx
    cases hw
  dom b p hb := by
    by_cases e : b < ng
    · exact e
    · rw [Mp.cut_at, if_neg e] at hb; cases hb
  blk b x hx _ := by
    obtain ⟨l, hm, rfl⟩ := rows0_get gs b x hx
    have hp := List.all_eq_true.1 hgs _ hm
    rw [Bool.and_eq_true, decide_eq_true_eq] at hp
    obtain ⟨r, l', q1, q2, hfit⟩ := rowsAre_spec gs ha b l hm
    obtain ⟨p, o, g1, g2, arr, e, fz, rfl, hr⟩ := h.blk b _ q1 rfl
    refine ⟨p, _, by rw [Mp.cut_at, if_pos hp.2]; exact g1, g2, arr, e, fz, rfl, ?_⟩
    obtain ⟨q, n, leaf, sh, anc⟩ := r
    obtain ⟨_, hl2⟩ := readR_some q2
    obtain ⟨h3, h4⟩ := T.getL_some hl2
    have hlen : n = l.length := by rw [← hfit.length]; exact h3.symm
    have hrn : (row0 l).n = n := by
      show lenA l 0 = n
      rw [lenA_zero, hlen]
    refine ⟨hr.tot, by rw [hrn]; exact hr.kn, by rw [hrn]; exact hr.le, .inl (Nat.zero_le _), ?_, (fun hl => by cases hl), (fun hl => by cases hl)⟩
    intro i x hi hx
    rw [hrn] at hi
    have hx' : (T.ofL l).get i = some x := hx
    rw [T.get_ofL] at hx'
    obtain ⟨y, y1, y2⟩ := hfit.get' hx'
    have hy := h4 i hi
    rw [Nat.zero_add] at hy
    obtain ⟨v, k1, k2⟩ := hr.cell i y hi (hy.trans y1)
    exact ⟨v, k1, plainC_rel (List.all_eq_true.1 hp.1 x (List.mem_of_getElem? hx')) (fits_rel y2 k2)⟩
  apart b x b' x' p p' hx hw := by
    obtain ⟨l, _, rfl⟩ := rows0_get gs b x hx
    cases hw

theorem st0_frame {ρ : Mp} {gs : List (Nat × List C)} {ng : Nat} {H H' : Array Obj} {ρ' : Mp} {s' : St} (hp : Post ρ (st0 gs ng) H ρ' s' H') : ∀ c, c < H.size → H'[c]? = H[c]? :=
  fun c hc => hp.frame c hc fun b x p hx hw => by
    obtain ⟨l, _, rfl⟩ := rows0_get gs b x hx
    cases hw

section
variable {P : Program} {kps : List (Nat × Nat)} {exts : List (Nat × Ext)}

theorem run_calls' (hany : P.follows .mixedOrders = true) (ht : typesOk P = true) (hk : kps.all (fun p => fnOk P p.1) = true) (hx : ∀ p ∈ exts, ExtOne P P.globals.size p.1 p.2) {lf n f : Nat} {args : List W} {s s' : St} {v : V} {ρ : Mp} {w : World} {vals : Array Value}
    (hf : (pairT exts .nil).get f = none) (h : HRel ρ s.h.get s.nx w.heap) (hg : GOk P.globals.size ρ) (hr : runF (envOf P exts kps) lf (n + 1) f args s = .ok v s') (hv : All2 (WRel ρ) args vals.toList) :
    (callFunc f vals).run P w = .ok (.enter f vals) w ∧ Calls P f vals w (fun e w' => ∃ u, e = .returned u ∧ Done ρ s w v s' u w') := by
  replace hr : (@Option.rec Ext (fun _ => VS) (@Option.rec Nat (fun _ => VS) .no (fun ks => @Option.rec Func (fun _ => VS) .no (fun fn => runB (envOf P exts kps) (runF (envOf P exts kps) lf n) lf ks fn args s) ((envOf P exts kps).fns.get f)) ((envOf P exts kps).kps.get f))
    (fun x => @VS.rec (fun _ => VS) (fun v s' => .ok v s') (@Option.rec Nat (fun _ => VS) .no (fun ks => @Option.rec Func (fun _ => VS) .no (fun fn => runB (envOf P exts kps) (runF (envOf P exts kps) lf n) lf ks fn args s) ((envOf P exts kps).fns.get f)) ((envOf P exts kps).kps.get f)) (extF x args s)) ((envOf P exts kps).ext.get f)) = .ok v s' := hr
  have hfe : (envOf P exts kps).ext.get f = none := hf
  rw [hfe] at hr
  have hE := envOf_ok P exts kps hany ht
  have hc := runF_ok hE (kps_ok P exts kps hk) (extOk_of exts kps hx) (fun call hc => draw_sound hE hc) (itOk_of exts kps hx) lf n
  cases hks : (envOf P exts kps).kps.get f with
  | none => rw [hks] at hr; cases hr
  | some ks =>
    rw [hks] at hr
    simp only [] at hr
    cases hfn : (envOf P exts kps).fns.get f with
    | none => rw [hfn] at hr; cases hr
    | some fn =>
      rw [hfn] at hr
      exact runB_ok hE (kps_ok P exts kps hk) hc (draw_sound hE hc) (itOk_of exts kps hx) hks hfn hr h hg hv

def valOf (r : VS) : Option C := match r with
  | .ok (.w (.c c)) _ => some c
  | _ => none
theorem valOf_some {r : VS} {c : C} (h : valOf r = some c) : ∃ s', r = .ok (.w (.c c)) s' := by
  unfold valOf at h
  split at h
  · cases h; exact ⟨_, rfl⟩
  · cases h

theorem ext_const (hany : P.follows .mixedOrders = true) (ht : typesOk P = true) (hk : kps.all (fun p => fnOk P p.1) = true) (hx : ∀ p ∈ exts, ExtOne P P.globals.size p.1 p.2) {lf n f : Nat} (gs : List (Nat × List C)) {c : C}
    (hgs : gs.all (fun p => and (p.2.all plainC) (decide (p.1 < P.globals.size))) = true) (hf : (pairT exts .nil).get f = none) (hc : litC c = true)
    (hr : valOf (runF (envOf P exts kps) lf (n + 1) f [] (st0 gs P.globals.size)) = some c) : ExtOne P P.globals.size f (.const c gs) := by
  intro args s v s' ρ w vals h hg hr' hv
  left
  obtain ⟨s1, hs1⟩ := valOf_some hr
  match args, hr' with
  | [], hr' =>
    have hr' : (match rowsAre s.h.get gs with | true => VS.ok (vc c) s | false => .no) = .ok v s' := hr'
    cases ha : rowsAre s.h.get gs with
    | false => rw [ha] at hr'; cases hr'
    | true =>
      rw [ha] at hr'
      cases hr'
      have hrel := hrel_rows h gs hgs ha
      have hgok : GOk P.globals.size (ρ.cut P.globals.size) := fun g hlt => by
        obtain ⟨p, q1, q2⟩ := hg g hlt
        exact ⟨p, by rw [Mp.cut_at, if_pos hlt]; exact q1, q2⟩
      obtain ⟨l⟩ := vals
      cases hv
      have := run_calls' hany ht hk hx hf hrel hgok hs1 (vals := #[]) .nil
      refine ⟨this.1, Calls.mono this.2 ?_⟩
      rintro e w' ⟨u, rfl, ρ', ⟨hp, hsm⟩, hu⟩
      have hkept := st0_frame hp
      have hrel' := HRel.stays h hkept
      exact ⟨u, rfl, ρ, ⟨⟨Snap.le_refl _, fun _ _ _ h => .inl h, fun _ _ => rfl, Nat.le_refl _, hrel', hp.sz, fun c hc _ => hkept c hc, fun b x p h1 h2 h3 _ => ⟨b, x, p, h1, h2, h3, rfl⟩, fun b x p h1 h2 h3 _ => ⟨b, x, p, h1, h2, h3, rfl⟩⟩, hsm⟩, litC_rel hc hu⟩

def rhoG (gs : List (Nat × List C)) (ng : Nat) : Mp := ⟨fun g => if g < ng then some ⟨g, 0, ((gs.lookup g).map List.length).getD 0, ((gs.lookup g).map List.length).getD 0⟩ else none, fun _ _ => none⟩
theorem rhoG_at (gs : List (Nat × List C)) (ng g : Nat) : rhoG gs ng g = if g < ng then some ⟨g, 0, ((gs.lookup g).map List.length).getD 0, ((gs.lookup g).map List.length).getD 0⟩ else none := rfl
theorem lookup_get {gs : List (Nat × List C)} {g : Nat} {x : Blk} (h : (rows0 gs).get g = some x) : ∃ l, gs.lookup g = some l ∧ (g, l) ∈ gs ∧ x = .row (row0 l) := by
  induction gs with
  | nil => cases h
  | cons p gs ih =>
    obtain ⟨g', l⟩ := p
    simp only [rows0, T.get_set] at h
    split at h
    · rename_i e; cases h; subst e; exact ⟨l, by simp [List.lookup], by simp, rfl⟩
    · rename_i e
      obtain ⟨l', h1, h2, h3⟩ := ih h
      refine ⟨l', ?_, by simp [h2], h3⟩
      have : (g == g') = false := by simpa using e
      simp [List.lookup, this, h1]

def HoldsRows (gs : List (Nat × List C)) (H : Array Obj) : Prop := ∀ g l, (g, l) ∈ gs → ∃ arr e fz, H[g]? = some (.cells arr e fz) ∧ All2 (CRel ⟨fun _ => none, fun _ _ => none⟩) l arr.toList

theorem hrelG {gs : List (Nat × List C)} {ng : Nat} {H : Array Obj} (hgs : gs.all (fun p => and (p.2.all plainC) (decide (p.1 < ng))) = true) (hH : HoldsRows gs H) : HRel (rhoG gs ng) (st0 gs ng).h.get ng H where
  lies _ _ _ h := by cases h
  away b x p hx hw := by
    obtain ⟨l, _, rfl⟩ := rows0_get gs b x hx
    cases hw
  dom b p h := by rw [rhoG_at] at h; split at h <;> first | assumption | cases h
  blk b x hx _ := by
    obtain ⟨l, hl, hm, rfl⟩ := lookup_get hx
    have hp := List.all_eq_true.1 hgs _ hm
    rw [Bool.and_eq_true, decide_eq_true_eq] at hp
    obtain ⟨arr, e, fz, g1, g2⟩ := hH b l hm
    have hlen := g2.length
    simp at hlen
    refine ⟨⟨b, 0, l.length, l.length⟩, _, by rw [rhoG_at, if_pos hp.2, hl]; rfl, g1, arr, e, fz, rfl, ?_⟩
    have hrn : (row0 l).n = l.length := by
      show lenA l 0 = l.length
      rw [lenA_zero]
    refine ⟨by simp [hlen], hrn, by rw [hrn]; simp, .inl (Nat.zero_le _), ?_, (fun hl => by cases hl), (fun hl => by cases hl)⟩
    intro i x hi hx
    have hx' : (T.ofL l).get i = some x := hx
    rw [T.get_ofL] at hx'
    obtain ⟨v, k1, k2⟩ := g2.get hx'
    exact ⟨v, by simpa using k1, plainC_rel (List.all_eq_true.1 hp.1 x (List.mem_of_getElem? hx')) k2⟩
  apart b x b' x' p p' hx hw := by
    obtain ⟨l, _, rfl⟩ := rows0_get gs b x hx
    cases hw
theorem gokG (gs : List (Nat × List C)) (ng : Nat) : GOk ng (rhoG gs ng) := fun g h => ⟨_, by rw [rhoG_at, if_pos h], rfl, rfl⟩

theorem keptG {gs : List (Nat × List C)} {ng : Nat} {ρ : Mp} {w w' : World} {v : V} {s' : St} {u : Value} (h : Done ρ (st0 gs ng) w v s' u w') (may : MemPlace → Prop) : w.keptBut w' may ∧ w.heap.size ≤ w'.heap.size := by
  obtain ⟨ρ', ⟨hp, hs⟩, _⟩ := h
  refine ⟨⟨hs.1, hs.2.1, fun i hi => ?_⟩, hp.sz⟩
  rw [st0_frame hp i hi]
  cases w.heap[i]? with
  | none => rfl
  | some o => cases o <;> first | rfl | exact ⟨rfl, rfl, rfl, fun _ _ => rfl⟩ | exact .inr ⟨rfl, rfl⟩

theorem law_true_g (hany : P.follows .mixedOrders = true) (ht : typesOk P = true) (hk : kps.all (fun p => fnOk P p.1) = true) (hx : ∀ p ∈ exts, ExtOne P P.globals.size p.1 p.2) {lf n f : Nat} {args : List W} {vals : Array Value} (gs : List (Nat × List C))
    (hgs : gs.all (fun p => and (p.2.all plainC) (decide (p.1 < P.globals.size))) = true) (hf : (pairT exts .nil).get f = none)
    (hr : isTrue (runF (envOf P exts kps) lf (n + 1) f args (st0 gs P.globals.size)) = true) (hv : ∀ ρ, All2 (WRel ρ) args vals.toList) (w : World) (hw : HoldsRows gs w.heap) :
    Calls P f vals w (fun e w' => e = .returned (.bool true) ∧ w.keptBut w' (fun _ => False) ∧ w.heap.size ≤ w'.heap.size) := by
  obtain ⟨s', hs⟩ := isTrue_some hr
  refine Calls.mono (run_calls' hany ht hk hx hf (hrelG hgs hw) (gokG _ _) hs (hv _)).2 ?_
  rintro e w' ⟨u, rfl, hd⟩
  have hk := keptG hd (fun _ => False)
  obtain ⟨ρ', _, hu⟩ := hd
  have : u = .bool true := hu
  subst this
  exact ⟨rfl, hk.1, hk.2⟩
end
end Ev

set_option linter.unusedVariables false
set_option linter.unusedSimpArgs false
namespace Ev
open Go

def PWRel (m : Snap) : PW → Value → Prop
  | .c d, v => DRel m d v
  | .agg l, v => ∃ a : Array Value, v = .agg a ∧ All2 (DRel m) l a.toList
def PVRel (m : Snap) : PV → Value → Prop
  | .w x, v => PWRel m x v
  | .tup l, v => ∃ a : Array Value, v = .tuple a ∧ All2 (PWRel m) l a.toList
theorem PWRel.mono {m m' : Snap} (h : m.le m') {x : PW} {v : Value} (hr : PWRel m x v) : PWRel m' x v := by
  cases x with
  | c d => exact DRel.mono h hr
  | agg l => obtain ⟨a, h1, h2⟩ := hr; exact ⟨a, h1, h2.mono fun _ _ => DRel.mono h⟩
theorem PVRel.mono {m m' : Snap} (h : m.le m') {x : PV} {v : Value} (hr : PVRel m x v) : PVRel m' x v := by
  cases x with
  | w x => exact PWRel.mono h hr
  | tup l => obtain ⟨a, h1, h2⟩ := hr; exact ⟨a, h1, h2.mono fun _ _ => PWRel.mono h⟩
theorem toW_relP {ρ : Mp} {x : PW} {v : Value} (h : PWRel ρ.m x v) : WRel ρ x.toW v := by
  cases x with
  | c d => exact dToC_rel h
  | agg l => obtain ⟨a, h1, h2⟩ := h; exact ⟨a, h1, cellsD_rel h2⟩
theorem toWs_relP {ρ : Mp} {l : List PW} {vs : List Value} (h : All2 (PWRel ρ.m) l vs) : All2 (WRel ρ) (l.map PW.toW) vs := by
  induction h with
  | nil => exact .nil
  | cons h _ ih => exact .cons (toW_relP h) ih
theorem toV_relP {ρ : Mp} {x : PV} {v : Value} (h : PVRel ρ.m x v) : VRel ρ x.toV v := by
  cases x with
  | w x => exact toW_relP h
  | tup l => obtain ⟨a, h1, h2⟩ := h; exact ⟨a, h1, toWs_relP h2⟩
theorem DRel.scal {m m' : Snap} {d : D} {v : Value} (h : DRel m d v) (hs : d.scal = true) : DRel m' d v := by
  cases h <;> first | (cases hs; done) | constructor
theorem PWRel.scal {m m' : Snap} {x : PW} {v : Value} (h : PWRel m x v) (hs : x.scal = true) : PWRel m' x v := by
  cases x with
  | c d => exact DRel.scal h hs
  | agg l =>
    obtain ⟨a, h1, h2⟩ := h
    refine ⟨a, h1, ?_⟩
    have hs : l.all D.scal = true := hs
    generalize a.toList = r at h2
    clear h1
    induction h2 with
    | nil => exact .nil
    | cons h _ ih => rw [List.all_cons, Bool.and_eq_true] at hs; exact .cons (h.scal hs.1) (ih hs.2 hs.2)
theorem PVRel.scal {m m' : Snap} {x : PV} {v : Value} (h : PVRel m x v) (hs : x.scal = true) : PVRel m' x v := by
  cases x with
  | w x => exact PWRel.scal h hs
  | tup l =>
    obtain ⟨a, h1, h2⟩ := h
    refine ⟨a, h1, ?_⟩
    have hs : l.all PW.scal = true := hs
    generalize a.toList = r at h2
    clear h1
    induction h2 with
    | nil => exact .nil
    | cons h _ ih => rw [List.all_cons, Bool.and_eq_true] at hs; exact .cons (h.scal hs.1) (ih hs.2 hs.2)

theorem chunkD_length (z : Nat) : ∀ (n : Nat) (l : List D), (chunkD z n l).length = n
  | 0, _ => rfl
  | n + 1, l => by simp [chunkD, chunkD_length z n]
theorem chunkD_get (z : Nat) : ∀ (n : Nat) (l : List D) (i : Nat), i < n → (chunkD z n l)[i]? = some ((l.drop (i * z)).take z)
  | 0, _, i, h => by omega
  | n + 1, l, 0, _ => by simp [chunkD]
  | n + 1, l, i + 1, h => by
    simp only [chunkD, List.getElem?_cons_succ]
    rw [chunkD_get z n _ i (by omega), List.drop_drop, Nat.add_mul, Nat.one_mul, Nat.add_comm z]

noncomputable def snapOf (ρ : Mp) (H : Array Obj) (bs : List Nat) : Snap := fun c i =>
  open Classical in if ∃ b ∈ bs, ∃ p, ρ b = some p ∧ p.c = c then (match H[c]? with | some (.cells arr _ _) => arr[i]? | _ => none) else ρ.m c i
theorem snapOf_in {ρ : Mp} {H : Array Obj} {bs : List Nat} {b : Nat} {p : Place} (hb : b ∈ bs) (hp : ρ b = some p) {arr : Array Value} {e : TypeId} {fz : Nat × Nat} (h : H[p.c]? = some (.cells arr e fz)) (i : Nat) :
    snapOf ρ H bs p.c i = arr[i]? := by
  unfold snapOf
  rw [if_pos ⟨b, hb, p, hp, rfl⟩, h]
theorem snapOf_le {ρ : Mp} {H : Array Obj} {bs : List Nat} (hl : Lies ρ.m H) : ρ.m.le (snapOf ρ H bs) := by
  intro c i v hm
  unfold snapOf
  split
  · obtain ⟨arr, e, fz, h1, h2⟩ := hl c i v hm
    rw [h1]; exact h2
  · exact hm
theorem snapOf_lies {ρ : Mp} {H : Array Obj} {bs : List Nat} (hl : Lies ρ.m H) : Lies (snapOf ρ H bs) H := by
  intro c i v hm
  unfold snapOf at hm
  split at hm
  · cases h : H[c]? with
    | none => rw [h] at hm; cases hm
    | some o =>
      rw [h] at hm
      cases o <;> first | (cases hm; done) | exact ⟨_, _, _, rfl, hm⟩
  · exact hl c i v hm
theorem snapOf_new {ρ : Mp} {H : Array Obj} {bs : List Nat} {c i : Nat} {v : Value} (hm : snapOf ρ H bs c i = some v) : ρ.m c i = some v ∨ ∃ b ∈ bs, ∃ p, ρ b = some p ∧ p.c = c := by
  unfold snapOf at hm
  split at hm
  · rename_i h; exact .inr h
  · exact .inl hm

theorem frzRow_some {look : Look} {b : Nat} {r : Row} (h : frzRow look b = some r) : look b = some (.row r) ∧ r.leaf = true := by
  unfold frzRow at h
  split at h
  · rename_i r' e
    split at h
    · rename_i e2; cases h; exact ⟨e, e2⟩
    · cases h
  · cases h

theorem fzdRow_some {look : Look} {b : Nat} {r : Row} (h : fzdRow look b = some r) : look b = some (.row r) ∧ r.leaf = false ∧ r.n < r.sh := by
  unfold fzdRow at h
  split at h
  · rename_i r' e
    split at h
    · cases h
    · rename_i e2
      split at h
      · rename_i e3; cases h; exact ⟨e, e2, Nat.le_of_ble_eq_true e3⟩
      · cases h
  · cases h

theorem mapO_ok {f : C → Option (D × List Nat)} {Q : List Nat → C → D → Prop} (hf : ∀ c d bs, f c = some (d, bs) → Q bs c d) (hm : ∀ bs bs' c d, (∀ b ∈ bs, b ∈ bs') → Q bs c d → Q bs' c d) :
    ∀ (l : List C) (ds : List D) (bs : List Nat), mapO f l = some (ds, bs) → All2 (Q bs) l ds
  | [], ds, bs, h => by cases h; exact .nil
  | c :: l, ds, bs, h => by
    simp only [mapO] at h
    split at h
    · cases h
    · rename_i d b1 e
      split at h
      · cases h
      · rename_i ds' b2 e2
        cases h
        exact .cons (hm _ _ _ _ (fun b hb => List.mem_append_left _ hb) (hf _ _ _ e)) (All2.mono (fun _ _ h => hm _ _ _ _ (fun b hb => List.mem_append_right _ hb) h) (mapO_ok hf hm l ds' b2 e2))

section
variable {ρ : Mp} {look : Look} {nx : Nat} {H : Array Obj}

def Leafs (look : Look) (bs : List Nat) : Prop := ∀ b ∈ bs, ∃ r, look b = some (.row r) ∧ r.leaf = true
def Sealed (ρ : Mp) (look : Look) (H : Array Obj) (bs : List Nat) (c : C) (d : D) : Prop :=
  Leafs look bs ∧ ∀ bs', (∀ b ∈ bs, b ∈ bs') → ∀ v, CRel ρ c v → DRel (snapOf ρ H bs') d v

theorem frzC_ok (h : HRel ρ look nx H) : ∀ (n : Nat) (c : C) (d : D) (bs : List Nat), frzC look n c = some (d, bs) → (∀ b ∈ bs, ∃ r, look b = some (.row r) ∧ r.leaf = true) ∧
    ∀ bs', (∀ b ∈ bs, b ∈ bs') → ∀ v, CRel ρ c v → DRel (snapOf ρ H bs') d v := by
  have hle : ∀ bs', ρ.m.le (snapOf ρ H bs') := fun bs' => snapOf_le h.lies
  have plain : ∀ (c : C) (d : D), (∀ m v, CRel ρ c v → DRel ρ.m d v) → (∀ b ∈ ([] : List Nat), ∃ r, look b = some (.row r) ∧ r.leaf = true) ∧ ∀ bs', (∀ b ∈ ([] : List Nat), b ∈ bs') → ∀ v, CRel ρ c v → DRel (snapOf ρ H bs') d v :=
    fun c d hc => ⟨(fun b hb => by cases hb), fun bs' _ v hv => DRel.mono (hle bs') (hc ρ.m v hv)⟩
  have many : ∀ (n : Nat), (∀ (c : C) (d : D) (bs : List Nat), frzC look n c = some (d, bs) → (∀ b ∈ bs, ∃ r, look b = some (.row r) ∧ r.leaf = true) ∧ ∀ bs', (∀ b ∈ bs, b ∈ bs') → ∀ v, CRel ρ c v → DRel (snapOf ρ H bs') d v) →
      ∀ (l : List C) (ds : List D) (bs : List Nat), mapO (frzC look n) l = some (ds, bs) → (∀ b ∈ bs, ∃ r, look b = some (.row r) ∧ r.leaf = true) ∧ l.length = ds.length ∧ ∀ bs', (∀ b ∈ bs, b ∈ bs') → ∀ vs, LRel ρ l vs → All2 (DRel (snapOf ρ H bs')) ds vs := by
    intro n ih l
    induction l with
    | nil => intro ds bs h; cases h; exact ⟨(fun b hb => by cases hb), rfl, (fun bs' _ vs hv => by cases hv; exact .nil)⟩
    | cons c l ihl =>
      intro ds bs h
      simp only [mapO] at h
      split at h
      · cases h
      · rename_i d b1 e
        split at h
        · cases h
        · rename_i ds' b2 e2
          cases h
          obtain ⟨g1, g2⟩ := ih c d b1 e
          obtain ⟨k1, k2, k3⟩ := ihl ds' b2 e2
          refine ⟨fun b hb => (List.mem_append.1 hb).elim (g1 b) (k1 b), by simp [k2], fun bs' hbs vs hv => ?_⟩
          cases hv with
          | cons hv1 hv2 => exact .cons (g2 bs' (fun b hb => hbs b (List.mem_append_left _ hb)) _ hv1) (k3 bs' (fun b hb => hbs b (List.mem_append_right _ hb)) _ hv2)
  intro n
  induction n with
  | zero =>
    intro c d bs hf
    cases c <;> (try (simp only [frzC] at hf; cases hf; done))
    case str s => simp only [frzC] at hf; cases hf; exact plain _ _ fun m v hv => by obtain ⟨bs, rfl, rfl⟩ := hv; constructor
    case dat z l => simp only [frzC] at hf; cases hf; exact plain _ _ fun m v hv => hv
    case dp l o => simp only [frzC] at hf; cases hf; exact plain _ _ fun m v hv => hv
    case fn f l =>
      cases l with
      | nil => simp only [frzC] at hf; cases hf; exact plain _ _ fun m v hv => by obtain ⟨⟨vs⟩, rfl, hvs⟩ := hv; cases hvs; constructor
      | cons _ _ => simp only [frzC] at hf; cases hf
    all_goals (simp only [frzC] at hf; cases hf; exact plain _ _ fun m v hv => by have hv : v = _ := hv; subst hv; constructor)
  | succ n ih =>
    intro c d bs hf
    cases c <;> (try (simp only [frzC] at hf; cases hf; done))
    case str s => simp only [frzC] at hf; cases hf; exact plain _ _ fun m v hv => by obtain ⟨bs, rfl, rfl⟩ := hv; constructor
    case dat z l => simp only [frzC] at hf; cases hf; exact plain _ _ fun m v hv => hv
    case dp l o => simp only [frzC] at hf; cases hf; exact plain _ _ fun m v hv => hv
    case fn f l =>
      cases l with
      | nil => simp only [frzC] at hf; cases hf; exact plain _ _ fun m v hv => by obtain ⟨⟨vs⟩, rfl, hvs⟩ := hv; cases hvs; constructor
      | cons _ _ => simp only [frzC] at hf; cases hf
    case bool => (simp only [frzC] at hf; cases hf; exact plain _ _ fun m v hv => by have hv : v = _ := hv; subst hv; constructor)
    case int => (simp only [frzC] at hf; cases hf; exact plain _ _ fun m v hv => by have hv : v = _ := hv; subst hv; constructor)
    case nilp => (simp only [frzC] at hf; cases hf; exact plain _ _ fun m v hv => by have hv : v = _ := hv; subst hv; constructor)
    case nils => (simp only [frzC] at hf; cases hf; exact plain _ _ fun m v hv => by have hv : v = _ := hv; subst hv; constructor)
    case nilm => (simp only [frzC] at hf; cases hf; exact plain _ _ fun m v hv => by have hv : v = _ := hv; subst hv; constructor)
    case nilf => (simp only [frzC] at hf; cases hf; exact plain _ _ fun m v hv => by have hv : v = _ := hv; subst hv; constructor)
    case nili => (simp only [frzC] at hf; cases hf; exact plain _ _ fun m v hv => by have hv : v = _ := hv; subst hv; constructor)
    case ifc t c' =>
      simp only [frzC] at hf
      split at hf
      · rename_i d' b1 e
        cases hf
        obtain ⟨g1, g2⟩ := ih c' d' _ e
        refine ⟨g1, fun bs' hbs v hv => ?_⟩
        obtain ⟨x, rfl, hx⟩ := hv
        exact .ifc _ _ _ (g2 bs' hbs x hx)
      · cases hf
    case sl b o k cap z =>
      simp only [frzC] at hf
      split at hf
      · split at hf
        · cases hf
        · rename_i r hr
          obtain ⟨hb, hlf, hsh⟩ := fzdRow_some hr
          split at hf
          · rename_i hc
            rw [Bool.and_eq_true] at hc
            split at hf
            · cases hf
            · rename_i l hl
              cases hmo : mapO (frzC look n) l with
              | none => rw [hmo] at hf; cases hf
              | some q =>
                obtain ⟨ds, b2⟩ := q
                rw [hmo] at hf
                cases hf
                obtain ⟨k1, k2, k3⟩ := many n ih l ds _ hmo
                refine ⟨fun b' hb' => ?_, fun bs' hbs v hv => ?_⟩
                · exact k1 b' hb'
                · obtain ⟨p, ad, cp, hp, rfl, hs⟩ := hv
                  obtain ⟨p0, ob, e1, e2, arr, ty, fz, rfl, hrow⟩ := h.blk b _ hb rfl
                  rw [hp] at e1; cases e1
                  have hmk := (hrow.sh.resolve_left (by omega)).2
                  obtain ⟨q1, q2⟩ := readR_some hl
                  obtain ⟨vs, v1, v2, v3⟩ := getL_rel hrow q1 q2
                  have hall := k3 bs' (fun b' hb' => hbs b' hb') vs v1
                  have hdl : ds.length = k * z := by rw [← k2, v1.length, v2]; rfl
                  have had : 0 < k → ad = ⟨p.c, p.o + o, none⟩ := fun hk => by
                    cases cap with
                    | some c => exact (hs.ex c rfl).2.2
                    | none =>
                      rcases (hs.op rfl).2 with g | g
                      · exact g
                      · have := hs.le
                        omega
                  have hidx : ∀ (i : Nat) (e : List D) (j : Nat) (d : D), (chunkD z k ds)[i]? = some e → e[j]? = some d → i < k ∧ j < z ∧ ds[i * z + j]? = some d := by
                    intro i e j d hi hj
                    have hik : i < k := by have := (List.getElem?_eq_some_iff.1 hi).1; rwa [chunkD_length] at this
                    rw [chunkD_get z k ds i hik] at hi
                    cases hi
                    have hjz : j < z := by have := (List.getElem?_eq_some_iff.1 hj).1; rw [List.length_take] at this; omega
                    rw [List.getElem?_take, if_pos hjz, List.getElem?_drop] at hj
                    exact ⟨hik, hjz, hj⟩
                  have hlt : ∀ i j, i < k → j < z → i * z + j < k * z := by
                    intro i j hi hj
                    have : (i + 1) * z ≤ k * z := Nat.mul_le_mul_right z hi
                    rw [Nat.add_mul] at this
                    omega
                  have := DRel.sl (m := snapOf ρ H bs') z (chunkD z k ds) ad p.c (p.o + o) cp (fun i j => vs.getD (i * z + j) (.bool false)) (fun hk => had (by rwa [chunkD_length] at hk)) (by rw [chunkD_length]; exact hs.le) hs.zpos
                    (fun i e hi => by
                      have hik : i < k := by have := (List.getElem?_eq_some_iff.1 hi).1; rwa [chunkD_length] at this
                      rw [chunkD_get z k ds i hik] at hi
                      cases hi
                      have : (i + 1) * z ≤ k * z := Nat.mul_le_mul_right z hik
                      rw [Nat.add_mul] at this
                      rw [List.length_take, List.length_drop, hdl]
                      omega)
                    (fun i e j d hi hj => by
                      obtain ⟨w1, w2, w3⟩ := hidx i e j d hi hj
                      have hl := hlt i j w1 w2
                      have hin : p.o + o + (i * z + j) < p.tot := by have hk := hrow.le; have : o + k * z ≤ r.n := q1; omega
                      obtain ⟨v0, u0⟩ := hmk _ hin
                      have ha0 : arr[p.o + o + (i * z + j)]? = some v0 := by
                        obtain ⟨arr', _, _, y1, y2⟩ := h.lies _ _ _ u0
                        rw [e2] at y1; cases y1; exact y2
                      rw [snapOf_le h.lies _ _ _ u0, ← ha0, v3 (i * z + j) hl, List.getD_eq_getElem?_getD]
                      rw [List.getElem?_eq_getElem (by rw [v2]; exact hl)]; rfl)
                    (fun i e j d hi hj => by
                      obtain ⟨w1, w2, w3⟩ := hidx i e j d hi hj
                      obtain ⟨v, u1, u2⟩ := hall.get w3
                      rw [List.getD_eq_getElem?_getD, u1]; exact u2)
                  rw [chunkD_length] at this
                  exact this
          · cases hf
      · rename_i r hr
        obtain ⟨hb, hlf⟩ := frzRow_some hr
        split at hf
        · rename_i hc
          rw [Bool.and_eq_true] at hc
          split at hf
          · cases hf
          · rename_i l hl
            cases hmo : mapO (frzC look n) l with
            | none => rw [hmo] at hf; cases hf
            | some q =>
              obtain ⟨ds, b2⟩ := q
              rw [hmo] at hf
              cases hf
              obtain ⟨k1, k2, k3⟩ := many n ih l ds b2 hmo
              refine ⟨fun b' hb' => ?_, fun bs' hbs v hv => ?_⟩
              · rcases List.mem_cons.1 hb' with rfl | hb'
                · exact ⟨r, hb, hlf⟩
                · exact k1 b' hb'
              · obtain ⟨p, ad, cp, hp, rfl, hs⟩ := hv
                obtain ⟨p0, ob, e1, e2, arr, ty, fz, rfl, hrow⟩ := h.blk b _ hb rfl
                rw [hp] at e1; cases e1
                obtain ⟨q1, q2⟩ := readR_some hl
                obtain ⟨vs, v1, v2, v3⟩ := getL_rel hrow q1 q2
                have hall := k3 bs' (fun b' hb' => hbs b' (List.mem_cons_of_mem _ hb')) vs v1
                have hdl : ds.length = k * z := by rw [← k2, v1.length, v2]; rfl
                have had : 0 < k → ad = ⟨p.c, p.o + o, none⟩ := fun hk => by
                  cases cap with
                  | some c => exact (hs.ex c rfl).2.2
                  | none =>
                    rcases (hs.op rfl).2 with g | g
                    · exact g
                    · have := hs.le
                      omega
                have hidx : ∀ (i : Nat) (e : List D) (j : Nat) (d : D), (chunkD z k ds)[i]? = some e → e[j]? = some d → i < k ∧ j < z ∧ ds[i * z + j]? = some d := by
                  intro i e j d hi hj
                  have hik : i < k := by have := (List.getElem?_eq_some_iff.1 hi).1; rwa [chunkD_length] at this
                  rw [chunkD_get z k ds i hik] at hi
                  cases hi
                  have hjz : j < z := by have := (List.getElem?_eq_some_iff.1 hj).1; rw [List.length_take] at this; omega
                  rw [List.getElem?_take, if_pos hjz, List.getElem?_drop] at hj
                  exact ⟨hik, hjz, hj⟩
                have hlt : ∀ i j, i < k → j < z → i * z + j < k * z := by
                  intro i j hi hj
                  have : (i + 1) * z ≤ k * z := Nat.mul_le_mul_right z hi
                  rw [Nat.add_mul] at this
                  omega
                have := DRel.sl (m := snapOf ρ H bs') z (chunkD z k ds) ad p.c (p.o + o) cp (fun i j => vs.getD (i * z + j) (.bool false)) (fun hk => had (by rwa [chunkD_length] at hk)) (by rw [chunkD_length]; exact hs.le) hs.zpos
                  (fun i e hi => by
                    have hik : i < k := by have := (List.getElem?_eq_some_iff.1 hi).1; rwa [chunkD_length] at this
                    rw [chunkD_get z k ds i hik] at hi
                    cases hi
                    have : (i + 1) * z ≤ k * z := Nat.mul_le_mul_right z hik
                    rw [Nat.add_mul] at this
                    rw [List.length_take, List.length_drop, hdl]
                    omega)
                  (fun i e j d hi hj => by
                    obtain ⟨w1, w2, w3⟩ := hidx i e j d hi hj
                    have hl := hlt i j w1 w2
                    rw [snapOf_in (hbs b List.mem_cons_self) hp e2, v3 (i * z + j) hl, List.getD_eq_getElem?_getD]
                    rw [List.getElem?_eq_getElem (by rw [v2]; exact hl)]; rfl)
                  (fun i e j d hi hj => by
                    obtain ⟨w1, w2, w3⟩ := hidx i e j d hi hj
                    obtain ⟨v, u1, u2⟩ := hall.get w3
                    rw [List.getD_eq_getElem?_getD, u1]; exact u2)
                rw [chunkD_length] at this
                exact this
        · cases hf
    case ptr b o =>
      simp only [frzC] at hf
      split at hf
      · cases hf
      · rename_i r hr
        obtain ⟨hb, hlf⟩ := frzRow_some hr
        split at hf
        · cases hf
        · rename_i l hl
          cases hmo : mapO (frzC look n) l with
          | none => rw [hmo] at hf; cases hf
          | some q =>
            obtain ⟨ds, b2⟩ := q
            rw [hmo] at hf
            cases hf
            obtain ⟨k1, k2, k3⟩ := many n ih l ds b2 hmo
            refine ⟨fun b' hb' => ?_, fun bs' hbs v hv => ?_⟩
            · rcases List.mem_cons.1 hb' with rfl | hb'
              · exact ⟨r, hb, hlf⟩
              · exact k1 b' hb'
            · obtain ⟨p, hp, rfl⟩ := hv
              obtain ⟨p0, ob, e1, e2, arr, ty, fz, rfl, hrow⟩ := h.blk b _ hb rfl
              have hp : ρ b = some p := hp
              rw [hp] at e1; cases e1
              obtain ⟨q1, q2⟩ := readR_some hl
              obtain ⟨vs, v1, v2, v3⟩ := getL_rel hrow q1 q2
              have hall := k3 bs' (fun b' hb' => hbs b' (List.mem_cons_of_mem _ hb')) vs v1
              have hdl : ds.length = r.n := by rw [← k2, v1.length, v2]
              exact .pt ds o p.c p.o (fun j => vs.getD j (.bool false))
                (fun j d hj => by
                  have hl : j < r.n := by have := (List.getElem?_eq_some_iff.1 hj).1; omega
                  have := v3 j hl
                  rw [Nat.add_zero] at this
                  rw [snapOf_in (hbs b List.mem_cons_self) hp e2, this, List.getD_eq_getElem?_getD, List.getElem?_eq_getElem (by rw [v2]; exact hl)]; rfl)
                (fun j d hj => by
                  obtain ⟨v, u1, u2⟩ := hall.get hj
                  rw [List.getD_eq_getElem?_getD, u1]; exact u2)

end
end Ev

set_option linter.unusedVariables false
set_option linter.unusedSimpArgs false
namespace Ev
open Go

section
variable {ρ : Mp} {look : Look} {nx : Nat} {H H' : Array Obj}

theorem mapO_frz (h : HRel ρ look nx H) (n : Nat) : ∀ (l : List C) (ds : List D) (bs : List Nat), mapO (frzC look n) l = some (ds, bs) →
    Leafs look bs ∧ l.length = ds.length ∧ ∀ bs', (∀ b ∈ bs, b ∈ bs') → ∀ vs, LRel ρ l vs → All2 (DRel (snapOf ρ H bs')) ds vs := by
  intro l
  induction l with
  | nil => intro ds bs h; cases h; exact ⟨(fun b hb => by cases hb), rfl, (fun bs' _ vs hv => by cases hv; exact .nil)⟩
  | cons c l ihl =>
    intro ds bs hh
    simp only [mapO] at hh
    split at hh
    · cases hh
    · rename_i d b1 e
      split at hh
      · cases hh
      · rename_i ds' b2 e2
        cases hh
        obtain ⟨g1, g2⟩ := frzC_ok h n c d b1 e
        obtain ⟨k1, k2, k3⟩ := ihl ds' b2 e2
        refine ⟨fun b hb => (List.mem_append.1 hb).elim (g1 b) (k1 b), by simp [k2], fun bs' hbs vs hv => ?_⟩
        cases hv with
        | cons hv1 hv2 => exact .cons (g2 bs' (fun b hb => hbs b (List.mem_append_left _ hb)) _ hv1) (k3 bs' (fun b hb => hbs b (List.mem_append_right _ hb)) _ hv2)
theorem frzW_ok (h : HRel ρ look nx H) {x : W} {d : PW} {bs : List Nat} (hf : frzW look x = some (d, bs)) :
    Leafs look bs ∧ ∀ bs', (∀ b ∈ bs, b ∈ bs') → ∀ v, WRel ρ x v → PWRel (snapOf ρ H bs') d v := by
  cases x with
  | c c =>
    simp only [frzW] at hf
    split at hf
    · rename_i d' b' e
      cases hf
      exact frzC_ok h _ _ _ _ e
    · cases hf
  | agg l =>
    simp only [frzW] at hf
    split at hf
    · rename_i d' b' e
      cases hf
      obtain ⟨g1, _, g2⟩ := mapO_frz h _ _ _ _ e
      refine ⟨g1, fun bs' hb v hv => ?_⟩
      obtain ⟨a, rfl, hl⟩ := hv
      exact ⟨a, rfl, g2 bs' hb _ hl⟩
    · cases hf
theorem frzWs_ok (h : HRel ρ look nx H) : ∀ (l : List W) (ds : List PW) (bs : List Nat), frzWs look l = some (ds, bs) →
    Leafs look bs ∧ ∀ bs', (∀ b ∈ bs, b ∈ bs') → ∀ vs, All2 (WRel ρ) l vs → All2 (PWRel (snapOf ρ H bs')) ds vs := by
  intro l
  induction l with
  | nil => intro ds bs h; cases h; exact ⟨(fun b hb => by cases hb), (fun bs' _ vs hv => by cases hv; exact .nil)⟩
  | cons c l ihl =>
    intro ds bs hh
    simp only [frzWs] at hh
    split at hh
    · cases hh
    · rename_i d b1 e
      split at hh
      · cases hh
      · rename_i ds' b2 e2
        cases hh
        obtain ⟨g1, g2⟩ := frzW_ok h e
        obtain ⟨k1, k3⟩ := ihl ds' b2 e2
        refine ⟨fun b hb => (List.mem_append.1 hb).elim (g1 b) (k1 b), fun bs' hbs vs hv => ?_⟩
        cases hv with
        | cons hv1 hv2 => exact .cons (g2 bs' (fun b hb => hbs b (List.mem_append_left _ hb)) _ hv1) (k3 bs' (fun b hb => hbs b (List.mem_append_right _ hb)) _ hv2)
theorem frzV_ok (h : HRel ρ look nx H) {x : V} {d : PV} {bs : List Nat} (hf : frzV look x = some (d, bs)) :
    Leafs look bs ∧ ∀ v, VRel ρ x v → PVRel (snapOf ρ H bs) d v := by
  cases x with
  | w x =>
    simp only [frzV] at hf
    split at hf
    · rename_i d' b' e
      cases hf
      obtain ⟨g1, g2⟩ := frzW_ok h e
      exact ⟨g1, fun v hv => g2 _ (fun b hb => hb) v hv⟩
    · cases hf
  | tup l =>
    simp only [frzV] at hf
    split at hf
    · rename_i d' b' e
      cases hf
      obtain ⟨g1, g2⟩ := frzWs_ok h _ _ _ e
      refine ⟨g1, fun v hv => ?_⟩
      obtain ⟨a, rfl, hl⟩ := hv
      exact ⟨a, rfl, g2 _ (fun b hb => hb) _ hl⟩
    · cases hf
  | un => cases hf

theorem HRel.snap (h : HRel ρ look nx H) {m : Snap} (hw : ∀ b x, look b = some x → wr x = false) (hle : ρ.m.le m) (hl : Lies m H) : HRel ⟨ρ.f, m⟩ look nx H where
  lies := hl
  away b x p hx hwx := by rw [hw b x hx] at hwx; cases hwx
  dom := h.dom
  blk b x hx ha := by
    obtain ⟨p, o, g1, g2, g3⟩ := h.blk b x hx ha
    exact ⟨p, o, g1, g2, g3.mono (show ρ.le ⟨ρ.f, m⟩ from ⟨fun _ _ h => h, hle⟩)⟩
  apart := h.apart

theorem Post.sealed {s : St} (h : HRel ρ s.h.get s.nx H) {bs : List Nat} (hb : Leafs s.h.get bs) : Post ρ s H ⟨ρ.f, snapOf ρ H bs⟩ (sealS s bs) H := by
  have hlook : ∀ x y, (sealS s bs).h.get x = some y → alive y = true → x ∉ bs ∧ s.h.get x = some y := by
    intro x y hx ha
    have hx : (kill s.h bs).get x = some y := hx
    rw [kill_get] at hx
    split at hx
    · cases hx; cases ha
    · rename_i e; exact ⟨e, hx⟩
  have hle : ρ.le ⟨ρ.f, snapOf ρ H bs⟩ := ⟨fun _ _ h => h, snapOf_le h.lies⟩
  refine ⟨snapOf_le h.lies, ?_, fun _ _ => rfl, Nat.le_refl _, ⟨snapOf_lies h.lies, ?_, h.dom, ?_, ?_⟩, Nat.le_refl _, fun _ _ _ => rfl, ?_, ?_⟩
  · intro c i v hm
    rcases snapOf_new hm with g | ⟨b, hbb, p, hp, hc⟩
    · exact .inl g
    · obtain ⟨r, hr, hlf⟩ := hb b hbb
      exact .inr (.inr ⟨b, _, p, hr, hlf, hp, hc⟩)
  · intro x y p hx hw hp i v hm
    obtain ⟨hn, hx0⟩ := hlook x y hx (wr_alive hw)
    have hp : ρ x = some p := hp
    rcases snapOf_new hm with g | ⟨b, hbb, q, hq, hc⟩
    · exact h.away x y p hx0 hw hp i v g
    · obtain ⟨r, hr, hlf⟩ := hb b hbb
      obtain ⟨r1, r2, _, s2, s3, _⟩ := h.apart x y b _ p q hx0 hw hr rfl (fun e => hn (e ▸ hbb)) hp hq hc.symm
      cases s2
      rw [hlf] at s3; cases s3
  · intro x y hx ha
    obtain ⟨hn, hx0⟩ := hlook x y hx ha
    obtain ⟨p, o, g1, g2, g3⟩ := h.blk x y hx0 ha
    exact ⟨p, o, g1, g2, g3.mono hle⟩
  · intro b x b' x' p p' hx hw hx' ha hne hp hp' hc
    exact h.apart b x b' x' p p' (hlook b x hx (wr_alive hw)).2 hw (hlook b' x' hx' ha).2 ha hne hp hp' hc
  · intro b x p hx hw hp _
    exact ⟨b, x, p, (hlook b x hx (wr_alive hw)).2, hw, hp, rfl⟩
  · intro b x p hx ha hp _
    exact ⟨b, x, p, (hlook b x hx ha).2, ha, hp, rfl⟩

theorem markB_idem (y : Option Blk) : markB (some (markB y)) = markB y := by
  cases y with
  | none => rfl
  | some y => cases y <;> rfl
theorem markL_get (l : List Nat) : ∀ (h : T Blk) (x : Nat), (markL h l).get x = if x ∈ l then some (markB (h.get x)) else h.get x := by
  induction l with
  | nil => intro h x; simp [markL]
  | cons b l ih =>
    intro h x
    show (markL (h.set b (markB (h.get b))) l).get x = _
    rw [ih, T.get_set]
    by_cases hxb : x = b
    · subst hxb
      rw [if_pos rfl, if_pos List.mem_cons_self, markB_idem]
      split <;> rfl
    · rw [if_neg hxb]
      by_cases hl : x ∈ l
      · rw [if_pos hl, if_pos (List.mem_cons_of_mem _ hl)]
      · rw [if_neg hl, if_neg (fun h => (List.mem_cons.1 h).elim hxb hl)]
theorem Post.marked {s : St} (h : HRel ρ s.h.get s.nx H) {bs : List Nat} (hb : Leafs s.h.get bs) : Post ρ s H ⟨ρ.f, snapOf ρ H bs⟩ (markS s bs) H := by
  have hlook : ∀ x y, (markS s bs).h.get x = some y → alive y = true → (x ∉ bs ∧ s.h.get x = some y) ∨ (x ∈ bs ∧ wr y = false ∧ ∃ q n lf sh anc, s.h.get x = some (.row ⟨q, n, lf, sh, anc⟩) ∧ lf = true ∧ y = .row ⟨q, n, false, Nat.succ n, []⟩) := by
    intro x y hx ha
    have hx : (markL s.h bs).get x = some y := hx
    rw [markL_get] at hx
    split at hx
    · rename_i hm
      obtain ⟨⟨q, n, lf, sh, anc⟩, hr, hlf⟩ := hb x hm
      rw [hr] at hx
      cases hx
      exact .inr ⟨hm, rfl, q, n, lf, sh, anc, hr, hlf, rfl⟩
    · rename_i e; exact .inl ⟨e, hx⟩
  have hwr : ∀ x y, (markS s bs).h.get x = some y → wr y = true → x ∉ bs ∧ s.h.get x = some y := fun x y hx hw => by
    rcases hlook x y hx (wr_alive hw) with g | ⟨_, g, _⟩
    · exact g
    · rw [hw] at g; cases g
  have hle : ρ.le ⟨ρ.f, snapOf ρ H bs⟩ := ⟨fun _ _ h => h, snapOf_le h.lies⟩
  refine ⟨snapOf_le h.lies, ?_, fun _ _ => rfl, Nat.le_refl _, ⟨snapOf_lies h.lies, ?_, h.dom, ?_, ?_⟩, Nat.le_refl _, fun _ _ _ => rfl, ?_, ?_⟩
  · intro c i v hm
    rcases snapOf_new hm with g | ⟨b, hbb, p, hp, hc⟩
    · exact .inl g
    · obtain ⟨r, hr, hlf⟩ := hb b hbb
      exact .inr (.inr ⟨b, _, p, hr, hlf, hp, hc⟩)
  · intro x y p hx hw hp i v hm
    obtain ⟨hn, hx0⟩ := hwr x y hx hw
    have hp : ρ x = some p := hp
    rcases snapOf_new hm with g | ⟨b, hbb, q, hq, hc⟩
    · exact h.away x y p hx0 hw hp i v g
    · obtain ⟨r, hr, hlf⟩ := hb b hbb
      obtain ⟨r1, r2, _, s2, s3, _⟩ := h.apart x y b _ p q hx0 hw hr rfl (fun e => hn (e ▸ hbb)) hp hq hc.symm
      cases s2
      rw [hlf] at s3; cases s3
  · intro x y hx ha
    rcases hlook x y hx ha with ⟨_, hx0⟩ | ⟨hm, _, q, n, lf, sh, anc, hx0, hlf, rfl⟩
    · obtain ⟨p, o, g1, g2, g3⟩ := h.blk x y hx0 ha
      exact ⟨p, o, g1, g2, g3.mono hle⟩
    · obtain ⟨p, o, g1, g2, arr, e, fz, rfl, g3⟩ := h.blk x _ hx0 rfl
      refine ⟨p, _, g1, g2, arr, e, fz, rfl, ⟨g3.tot, g3.kn, g3.le, .inr ⟨rfl, fun i hi => ?_⟩, fun i c hi hc => let ⟨v, a, b⟩ := g3.cell i c hi hc; ⟨v, a, b.mono hle⟩, (fun hh => by cases hh), (fun hh => by cases hh)⟩⟩
      have hi : i < arr.size := by rw [g3.tot]; exact hi
      exact ⟨arr[i], by show snapOf ρ H bs p.c i = _; rw [snapOf_in hm g1 g2, Array.getElem?_eq_getElem hi]⟩
  · intro b x b' x' p p' hx hw hx' ha hne hp hp' hc
    obtain ⟨hn, hx0⟩ := hwr b x hx hw
    rcases hlook b' x' hx' ha with ⟨_, hx0'⟩ | ⟨hm, _, q, n, lf, sh, anc, hx0', hlf, rfl⟩
    · exact h.apart b x b' x' p p' hx0 hw hx0' ha hne hp hp' hc
    · obtain ⟨r1, r2, _, s2, s3, _⟩ := h.apart b x b' _ p p' hx0 hw hx0' rfl hne hp hp' hc
      cases s2
      rw [show lf = true from hlf] at s3; cases s3
  · intro b x p hx hw hp _
    exact ⟨b, x, p, (hwr b x hx hw).2, hw, hp, rfl⟩
  · intro b x p hx ha hp _
    rcases hlook b x hx ha with ⟨_, hx0⟩ | ⟨_, _, q, n, lf, sh, anc, hx0, hlf, rfl⟩
    · exact ⟨b, x, p, hx0, ha, hp, rfl⟩
    · exact ⟨b, _, p, hx0, rfl, hp, rfl⟩

theorem Post.grown {s : St} (h : HRel ρ s.h.get s.nx H) {m : Snap} (hle : ρ.m.le m) (hn : ∀ c i v, m c i = some v → ρ.m c i = some v ∨ H.size ≤ c) (hl : Lies m H') (hk : ∀ c, c < H.size → H'[c]? = H[c]?) (hs : H.size ≤ H'.size) :
    Post ρ s H ⟨ρ.f, m⟩ s H' where
  m := hle
  mn c i v hm := (hn c i v hm).elim .inl fun g => .inr (.inl g)
  ext _ _ := rfl
  nx := Nat.le_refl _
  rel := {
    lies := hl
    away := fun b x p hx hw hp i v hm => by
      have hp : ρ b = some p := hp
      rcases hn _ _ _ hm with g | g
      · exact h.away b x p hx hw hp i v g
      · obtain ⟨q, o, e1, e2, _⟩ := h.blk b x hx (wr_alive hw)
        rw [hp] at e1; cases e1
        have := (Array.getElem?_eq_some_iff.1 e2).1
        have g : H.size ≤ p.c := g
        omega
    dom := h.dom
    blk := fun b x hx ha => by
      obtain ⟨p, o, g1, g2, g3⟩ := h.blk b x hx ha
      exact ⟨p, o, g1, by rw [hk _ (Array.getElem?_eq_some_iff.1 g2).1]; exact g2, g3.mono (show ρ.le ⟨ρ.f, m⟩ from ⟨fun _ _ h => h, hle⟩)⟩
    apart := h.apart }
  sz := hs
  frame c hc _ := hk c hc
  wrs b x p hx hw hp _ := ⟨b, x, p, hx, hw, hp, rfl⟩
  alv b x p hx ha hp _ := ⟨b, x, p, hx, ha, hp, rfl⟩
end

def Leaves (m : Snap) (w : World) (pv : PV) (u : Value) (w' : World) : Prop :=
  ∃ m' : Snap, m.le m' ∧ (∀ c i v, m' c i = some v → m c i = some v ∨ w.heap.size ≤ c) ∧ Lies m' w'.heap ∧ PVRel m' pv u ∧ (∀ c, c < w.heap.size → w'.heap[c]? = w.heap[c]?) ∧ w.heap.size ≤ w'.heap.size ∧ Same w w'
def PureOk (P : Program) (f : Nat) (gs : List (Nat × List C)) (F : List PW → Option PV) : Prop :=
  ∀ (ρ : Mp) (w : World) (vals : Array Value) (ps : List PW) (pv : PV), HRel ρ (st0 gs P.globals.size).h.get P.globals.size w.heap → GOk P.globals.size ρ → F ps = some pv → All2 (PWRel ρ.m) ps vals.toList →
    (callFunc f vals).run P w = .ok (.enter f vals) w ∧ Calls P f vals w (fun e w' => ∃ u, e = .returned u ∧ Leaves ρ.m w pv u w')

section
variable {P : Program} {kps : List (Nat × Nat)} {exts : List (Nat × Ext)}

theorem rows0_wr (gs : List (Nat × List C)) (ng b : Nat) (x : Blk) (hx : (st0 gs ng).h.get b = some x) : wr x = false := by
  obtain ⟨l, _, rfl⟩ := rows0_get gs b x hx
  rfl

theorem ext_fn {f : Nat} {gs : List (Nat × List C)} {F : List PW → Option PV} (hgs : gs.all (fun p => and (p.2.all plainC) (decide (p.1 < P.globals.size))) = true) (hp : PureOk P f gs F) :
    ExtOne P P.globals.size f (.fn F gs) := by
  intro args s v s' ρ w vals h hg hr hv
  left
  have hr : (match rowsAre s.h.get gs with | true => extFn F args s | false => VS.no) = .ok v s' := hr
  cases ha : rowsAre s.h.get gs with
  | false => rw [ha] at hr; cases hr
  | true =>
    rw [ha] at hr
    simp only [extFn] at hr
    cases hz : frzWs s.h.get args with
    | none => rw [hz] at hr; cases hr
    | some q =>
      obtain ⟨ps, bs⟩ := q
      rw [hz] at hr
      simp only [] at hr
      cases hF : F ps with
      | none => rw [hF] at hr; cases hr
      | some pv =>
        rw [hF] at hr
        simp only [] at hr
        obtain ⟨hlf, hrel⟩ := frzWs_ok h _ _ _ hz
        have hps := hrel bs (fun b hb => hb) _ hv
        have hcut := hrel_rows h gs hgs ha
        have hcut' := hcut.snap (m := snapOf ρ w.heap bs) (rows0_wr gs _) (snapOf_le h.lies) (snapOf_lies h.lies)
        have hgok : GOk P.globals.size ⟨(ρ.cut P.globals.size).f, snapOf ρ w.heap bs⟩ := fun g hlt => by
          obtain ⟨p, q1, q2⟩ := hg g hlt
          exact ⟨p, by show (ρ.cut P.globals.size) g = some p; rw [Mp.cut_at, if_pos hlt]; exact q1, q2⟩
        have := hp _ w vals ps pv hcut' hgok hF hps
        refine ⟨this.1, Calls.mono this.2 ?_⟩
        rintro e w' ⟨u, rfl, m', l1, l2, l3, l4, l5, l6, l7⟩
        refine ⟨u, rfl, ?_⟩
        cases hsc : pv.scal with
        | true =>
          rw [hsc] at hr
          cases hr
          refine ⟨ρ, ⟨⟨Snap.le_refl _, fun _ _ _ h => .inl h, fun _ _ => rfl, Nat.le_refl _, HRel.stays h l5, l6, fun c hc _ => l5 c hc, fun b x p h1 h2 h3 _ => ⟨b, x, p, h1, h2, h3, rfl⟩, fun b x p h1 h2 h3 _ => ⟨b, x, p, h1, h2, h3, rfl⟩⟩, l7⟩, ?_⟩
          exact toV_relP (l4.scal hsc)
        | false =>
          rw [hsc] at hr
          cases hr
          have p1 := Post.marked h hlf
          have p2 := Post.grown p1.rel (m := m') l1 l2 l3 l5 l6
          exact ⟨_, ⟨p1.trans p2, l7⟩, toV_relP l4⟩

theorem pure_of_run (hany : P.follows .mixedOrders = true) (ht : typesOk P = true) (hk : kps.all (fun p => fnOk P p.1) = true) (hx : ∀ p ∈ exts, ExtOne P P.globals.size p.1 p.2) {f : Nat} (hf : (pairT exts .nil).get f = none)
    (gs : List (Nat × List C)) (F : List PW → Option PV)
    (hrun : ∀ ps pv, F ps = some pv → ∃ lf n v s' bs, runF (envOf P exts kps) lf (n + 1) f (ps.map PW.toW) (st0 gs P.globals.size) = .ok v s' ∧ frzV s'.h.get v = some (pv, bs)) : PureOk P f gs F := by
  intro ρ w vals ps pv h hg hF hps
  obtain ⟨lf, n, v, s', bs, hr, hz⟩ := hrun ps pv hF
  have := run_calls' hany ht hk hx hf h hg hr (toWs_relP hps)
  refine ⟨this.1, Calls.mono this.2 ?_⟩
  rintro e w' ⟨u, rfl, ρ', ⟨hp, hsm⟩, hv⟩
  obtain ⟨hlf, hrel⟩ := frzV_ok hp.rel hz
  have nowr : ∀ c, ¬ ∃ b x p, (st0 gs P.globals.size).h.get b = some x ∧ wr x = true ∧ ρ b = some p ∧ p.c = c := by
    rintro c ⟨b, x, p, h1, h2, _⟩
    rw [rows0_wr gs _ b x h1] at h2; cases h2
  refine ⟨u, rfl, snapOf ρ' w'.heap bs, Snap.le_trans hp.m (snapOf_le hp.rel.lies), ?_, snapOf_lies hp.rel.lies, hrel u hv, fun c hc => hp.frame c hc fun b x p h1 h2 h3 h4 => nowr c ⟨b, x, p, h1, h2, h3, h4⟩, hp.sz, hsm⟩
  intro c i v hm
  rcases snapOf_new hm with g | ⟨b, hb, p, hpb, hc⟩
  · rcases hp.mn c i v g with g | g | g
    · exact .inl g
    · exact .inr g
    · exact absurd g (nowr c)
  · obtain ⟨r, hr, hleaf⟩ := hlf b hb
    rcases Nat.lt_or_ge c w.heap.size with g | g
    · obtain ⟨b0, x0, p0, y1, y2, y3, y4⟩ := hp.wrs b _ p hr hleaf hpb (by omega)
      exact absurd ⟨b0, x0, p0, y1, y2, y3, y4⟩ (nowr p.c)
    · exact .inr g
end
end Ev

set_option linter.unusedVariables false
set_option linter.unusedSimpArgs false
namespace Ev
open Go

mutual
inductive Shape (P : Program) : TypeId → List D → Prop
  | bool (t : TypeId) (b : Bool) : P.underlying t = some .bool → Shape P t [.bool b]
  | int (t : TypeId) (k : IntKind) (n : Int) : P.underlying t = some (.int k) → k.min ≤ n → n ≤ k.max → Shape P t [.int k n]
  | str (t : TypeId) (l : List UInt8) : P.underlying t = some .string → l.length ≤ maxLen → Shape P t [.str (Str.ofL l)]
  | nils (t e : TypeId) : P.underlying t = some (.slice e) → Shape P t [.nils]
  | sl (t e : TypeId) (l : List (List D)) : P.underlying t = some (.slice e) → l.length ≤ maxLen → (∀ x ∈ l, Shape P e x) → Shape P t [.sl (P.cellsOf e) l]
  | struct (t : TypeId) (fs : Array Field) (l : List D) : P.underlying t = some (.struct fs) → ShapeF P fs.toList l → Shape P t l
inductive ShapeF (P : Program) : List Field → List D → Prop
  | nil : ShapeF P [] []
  | cons (f : Field) (fs : List Field) (x l : List D) : Shape P f.type x → ShapeF P fs l → ShapeF P (f :: fs) (x ++ l)
end

def coversF (P : Program) : List Field → Nat → Nat → Bool
  | [], o, n => o == n
  | f :: l, o, n => f.offset == o && coversF P l (o + P.cellsOf f.type) n
def openable (P : Program) : Nat → TypeId → Bool
  | 0, _ => false
  | n + 1, t => match P.underlying t with
    | some .bool => true
    | some (.int _) => true
    | some .string => true
    | some (.slice e) => openable P n e && decide (1 ≤ P.cellsOf e)
    | some (.struct fs) => fs.toList.all (fun f => openable P n f.type) && coversF P fs.toList 0 (P.cellsOf t)
    | _ => false

def snapAll (H : Array Obj) : Snap := fun c i => match H[c]? with
  | some (.cells arr _ _) => arr[i]?
  | _ => none
theorem snapAll_lies (H : Array Obj) : Lies (snapAll H) H := by
  intro c i v hm
  unfold snapAll at hm
  cases h : H[c]? with
  | none => rw [h] at hm; cases hm
  | some o =>
    rw [h] at hm
    cases o <;> first | (cases hm; done) | exact ⟨_, _, _, rfl, hm⟩
theorem snapAll_cell {w : World} {a : Addr} {v : Value} (h : w.cell? a = some v) : a.spot = none ∧ snapAll w.heap a.block a.off = some v := by
  unfold World.cell? at h
  unfold snapAll
  split at h
  · rename_i c _ _ e
    split at h
    · cases h
    · rename_i hs
      rw [e]
      exact ⟨by simpa using hs, h⟩
  · cases h

section
variable {P : Program} {w : World} {base : Nat} {spare : Nat → Bool} {held : Bool} {H : Type} {enc : TypeId × Value → H}

theorem add_add_ (a : Addr) (x y : Nat) : (a.add x).add y = a.add (x + y) := by
  unfold Addr.add
  by_cases hx : x = 0
  · subst hx; simp
  · by_cases hy : y = 0
    · subst hy; simp
    · simp [hx, hy]; omega
theorem wf_int {k : IntKind} {n : Int} (h : (Lit.int k n).wf = true) : k.min ≤ n ∧ n ≤ k.max := by
  simpa [Lit.wf] using h

theorem opens : ∀ (n : Nat) (t : TypeId), openable P n t = true → ∀ (fuel : Nat) (cs : List Value) (x : DataW H × List MemPlace), DataW.trod enc P w base spare held fuel t cs = some x →
    ∃ ds, All2 (DRel (snapAll w.heap)) ds cs ∧ Shape P t ds ∧ ds.length = cs.length := by
  intro n
  induction n with
  | zero => intro t h; cases h
  | succ n ih =>
    intro t ho fuel cs x hx
    unfold openable at ho
    cases hu : P.underlying t with
    | none => rw [hu] at ho; cases ho
    | some d =>
      rw [hu] at ho
      cases d <;> simp only [] at ho <;> try (cases ho; done)
      case bool =>
        obtain ⟨b, rfl, _⟩ := DataW.trod_bool hu hx
        exact ⟨[.bool b], .cons (.bool b) .nil, .bool t b hu, rfl⟩
      case int k =>
        obtain ⟨m, rfl, _, hw⟩ := DataW.trod_int hu hx
        obtain ⟨h1, h2⟩ := wf_int hw
        exact ⟨[.int k m], .cons (.int k m) .nil, .int t k m hu h1 h2, rfl⟩
      case string =>
        obtain ⟨s, rfl, _, hs⟩ := DataW.trod_string hu hx
        refine ⟨[.str (Str.of s)], .cons (.str s) .nil, ?_, rfl⟩
        rw [Str.of_eq]
        exact .str t _ hu (by simpa using hs)
      case slice e =>
        rw [Bool.and_eq_true, decide_eq_true_eq] at ho
        rcases DataW.trod_slice hu hx with ⟨rfl, _⟩ | ⟨a, len, cap, elems, rest, m, _, rfl, _, hb, hl, hm, hlen, hel, _, _⟩
        · exact ⟨[.nils], .cons .nils .nil, .nils t e hu, rfl⟩
        · have each : ∀ i, i < len → ∃ ds, ∃ cs, w.cells? base (a.add (i * P.cellsOf e)) (P.cellsOf e) = some cs ∧ All2 (DRel (snapAll w.heap)) ds cs ∧ Shape P e ds ∧ ds.length = cs.length := by
            intro i hi
            have h1 := hel i hi
            rw [List.getElem?_eq_getElem (by omega), Option.bind_eq_some_iff] at h1
            obtain ⟨c, h1, h2⟩ := h1
            obtain ⟨ds, g1, g2, g3⟩ := ih e ho.1 _ _ _ h2
            exact ⟨ds, c, h1, g1, g2, g3⟩
          have hf : ∀ i, ∃ ds : List D, i < len → ∃ cs, w.cells? base (a.add (i * P.cellsOf e)) (P.cellsOf e) = some cs ∧ All2 (DRel (snapAll w.heap)) ds cs ∧ Shape P e ds ∧ ds.length = cs.length := by
            intro i
            by_cases hi : i < len
            · obtain ⟨ds, h⟩ := each i hi
              exact ⟨ds, fun _ => h⟩
            · exact ⟨[], fun h => absurd h hi⟩
          let f := fun i => (hf i).choose
          have hfs : ∀ i, i < len → ∃ cs, w.cells? base (a.add (i * P.cellsOf e)) (P.cellsOf e) = some cs ∧ All2 (DRel (snapAll w.heap)) (f i) cs ∧ Shape P e (f i) ∧ (f i).length = cs.length := fun i => (hf i).choose_spec
          have hll : ((List.range len).map f).length = len := by simp
          have hget : ∀ (i : Nat) e', ((List.range len).map f)[i]? = some e' → i < len ∧ e' = f i := by
            intro i e' hi
            have hi' : i < len := by
              have := (List.getElem?_eq_some_iff.1 hi).1
              simpa using this
            rw [List.getElem?_map, List.getElem?_range hi'] at hi
            exact ⟨hi', (Option.some.inj hi).symm⟩
          have key : ∀ (i j : Nat) (d : D), i < len → (f i)[j]? = some d → ∃ v, w.cell? (a.add (i * P.cellsOf e + j)) = some v ∧ DRel (snapAll w.heap) d v ∧ j < P.cellsOf e := by
            intro i j d hi hd
            obtain ⟨cs, h1, h2, h3, h4⟩ := hfs i hi
            obtain ⟨_, k2, k3⟩ := World.cells?_some h1
            obtain ⟨v, g1, g2⟩ := h2.get hd
            have hj : j < P.cellsOf e := by have := (List.getElem?_eq_some_iff.1 g1).1; omega
            refine ⟨v, ?_, g2, hj⟩
            have := k3 j hj
            rw [g1] at this
            rw [← this]
            rw [add_add_]
          refine ⟨[.sl (P.cellsOf e) ((List.range len).map f)], .cons ?_ .nil, .sl t e _ hu (by rw [hll]; omega) ?_, rfl⟩
          · have := DRel.sl (m := snapAll w.heap) (P.cellsOf e) ((List.range len).map f) a a.block a.off cap (fun i j => (w.cell? (a.add (i * P.cellsOf e + j))).getD (.bool false))
              (fun h0 => by
                rw [hll] at h0
                obtain ⟨cs, h1, h2, h3, h4⟩ := hfs 0 h0
                obtain ⟨_, k2, k3⟩ := World.cells?_some h1
                have hc : 0 < cs.length := by omega
                have := k3 0 (by omega)
                rw [List.getElem?_eq_getElem hc] at this
                have := (snapAll_cell this).1
                rw [Nat.zero_mul] at this
                have e0 : (a.add 0).add 0 = a := by unfold Addr.add; simp
                rw [e0] at this
                cases a
                simp at this
                subst this; rfl)
              (by rw [hll]; exact hl) ho.2
              (fun i e' hi => by
                obtain ⟨hi', rfl⟩ := hget i e' hi
                obtain ⟨cs, h1, h2, h3, h4⟩ := hfs i hi'
                obtain ⟨_, k2, k3⟩ := World.cells?_some h1
                omega)
              (fun i e' j d hi hj => by
                obtain ⟨hi', rfl⟩ := hget i e' hi
                obtain ⟨v, h1, h2, _⟩ := key i j d hi' hj
                have h3 := (snapAll_cell h1).2
                show _ = some ((w.cell? (a.add (i * P.cellsOf e + j))).getD (.bool false))
                rw [h1, Option.getD_some, ← h3]
                unfold Addr.add
                generalize i * P.cellsOf e + j = q
                by_cases c : q = 0
                · simp [c]
                · simp [c])
              (fun i e' j d hi hj => by
                obtain ⟨hi', rfl⟩ := hget i e' hi
                obtain ⟨v, h1, h2, _⟩ := key i j d hi' hj
                show DRel _ d ((w.cell? (a.add (i * P.cellsOf e + j))).getD (.bool false))
                rw [h1]; exact h2)
            rw [hll] at this
            exact this
          · intro y hy
            obtain ⟨i, hi, rfl⟩ := List.mem_map.1 hy
            rw [List.mem_range] at hi
            obtain ⟨cs, h1, h2, h3, h4⟩ := hfs i hi
            exact h3
      case struct fs =>
        rw [Bool.and_eq_true] at ho
        obtain ⟨xs, m, _, _, hl, hlen, hf⟩ := DataW.trod_struct hu hx
        have go : ∀ (l : List Field) (k o : Nat), (∀ i f, l[i]? = some f → fs[k + i]? = some f) → l.all (fun f => openable P n f.type) = true → coversF P l o (P.cellsOf t) = true → k + l.length = fs.size →
            ∃ ds, All2 (DRel (snapAll w.heap)) ds (cs.drop o) ∧ ShapeF P l ds := by
          intro l
          induction l with
          | nil =>
            intro k o _ _ hc _
            unfold coversF at hc
            have : o = P.cellsOf t := by simpa using hc
            refine ⟨[], ?_, .nil⟩
            rw [List.drop_of_length_le (by omega)]
            exact .nil
          | cons f l ihl =>
            intro k o hi ha hc hs
            rw [List.all_cons, Bool.and_eq_true] at ha
            unfold coversF at hc
            rw [Bool.and_eq_true] at hc
            have hoff : f.offset = o := by simpa using hc.1
            have h1 := hf k f (by have := hi 0 f rfl; simpa using this)
            have hk : k < xs.length := by rw [hlen]; simp at hs; omega
            rw [List.getElem?_eq_getElem hk] at h1
            obtain ⟨d, g1, g2, g3⟩ := ih f.type ha.1 _ _ _ h1
            obtain ⟨ds, q1, q2⟩ := ihl (k + 1) (o + P.cellsOf f.type) (fun i f' h => by have := hi (i + 1) f' (by simpa using h); rw [show k + 1 + i = k + (i + 1) by omega]; exact this) ha.2 hc.2 (by simp at hs; omega)
            refine ⟨d ++ ds, ?_, .cons f l d ds g2 q2⟩
            rw [hoff] at g1
            have : cs.drop o = (cs.drop o).take (P.cellsOf f.type) ++ cs.drop (o + P.cellsOf f.type) := by
              rw [← List.drop_drop, List.take_append_drop]
            rw [this]
            exact All2.append g1 q1
        obtain ⟨ds, q1, q2⟩ := go fs.toList 0 0 (fun i f h => by rw [Nat.zero_add]; simpa using h) ho.1 ho.2 (by simp)
        rw [List.drop_zero] at q1
        exact ⟨ds, q1, .struct t fs ds hu q2, q1.length⟩
end
end Ev

set_option linter.unusedVariables false
set_option linter.unusedSimpArgs false
namespace Ev
open Go

theorem andThen_nm (a : A) (s : St) (k : A → St → R) : andThen (.ok .nm a s) k = k a s := rfl
theorem andThen_ex (i : Nat) (a : A) (s : St) (k : A → St → R) : andThen (.ok (.ex i) a s) k = .ok (.ex i) a s := rfl
theorem andThen_ret (a : A) (s : St) (k : A → St → R) : andThen (.ok .ret a s) k = .ok .ret a s := rfl
theorem andThen_bad (k : A → St → R) : andThen .bad k = .bad := rfl
theorem andThen_ne {e : Ex} (h : e ≠ .nm) (a : A) (s : St) (k : A → St → R) : andThen (.ok e a s) k = .ok e a s := by cases e <;> first | rfl | exact absurd rfl h
theorem andThen_assoc (r : R) (f g : A → St → R) : andThen (andThen r f) g = andThen r fun a s => andThen (f a s) g := by
  cases r with
  | bad => rfl
  | ok e a s => cases e <;> rfl

noncomputable def rounds (f : A → St → R) : Nat → A → St → R
  | 0, a, s => .ok .nm a s
  | k + 1, a, s => andThen (f a s) (rounds f k)
theorem rounds_add (f : A → St → R) : ∀ (i j : Nat) (a : A) (s : St), rounds f (i + j) a s = andThen (rounds f i a s) (rounds f j)
  | 0, j, a, s => by simp [rounds, andThen_nm]
  | i + 1, j, a, s => by
    rw [show i + 1 + j = (i + j) + 1 by omega]
    simp only [rounds]
    rw [andThen_assoc]
    congr 1
    funext a s
    exact rounds_add f i j a s
theorem iter_rounds (f : A → St → R) : ∀ (n : Nat) (a : A) (s : St), iter f n a s = rounds f (2 ^ n) a s
  | 0, a, s => by
    show f a s = andThen (f a s) fun a s => .ok .nm a s
    cases f a s with
    | bad => rfl
    | ok e a s => cases e <;> rfl
  | n + 1, a, s => by
    show andThen (iter f n a s) (iter f n) = _
    rw [Nat.pow_succ, Nat.mul_two, rounds_add, iter_rounds f n a s]
    congr 1
    funext a s
    exact iter_rounds f n a s
theorem rounds_more {f : A → St → R} {k j : Nat} {a a' : A} {s s' : St} {e : Ex} (h : rounds f k a s = .ok e a' s') (he : e ≠ .nm) : rounds f (k + j) a s = .ok e a' s' := by
  rw [rounds_add, h, andThen_ne he]

inductive Fr where
  | c (c : Code)
  | o (ops l : List Oper)
  | b (id : Nat)
noncomputable def runK (E : Env) (call : CallF) (ks lf : Nat) : List Fr → R → R
  | [], r => r
  | .c c :: k, r => runK E call ks lf k (andThen r (evCode E call ks lf c))
  | .o ops l :: k, r => runK E call ks lf k (andThen r fun a s => regR (flushR (evOps E call ks ops l a s)))
  | .b id :: k, r => runK E call ks lf k (inBlk id r)
def goE (E : Env) (ks : Nat) (e : Ex) (k : List Fr) (a : A) (s : St) (Q : Ex → A → St → Prop) : Prop :=
  ∃ e' a' s' N, (∀ lf n, N ≤ lf → N ≤ n → runK E (runF E lf n) ks lf k (.ok e a s) = .ok e' a' s') ∧ Q e' a' s'
def go (E : Env) (ks : Nat) (k : List Fr) (a : A) (s : St) (Q : Ex → A → St → Prop) : Prop := goE E ks .nm k a s Q
def CallR (E : Env) (f : Nat) (args : List W) (s : St) (v : V) (s' : St) : Prop := ∃ N, ∀ lf n, N ≤ lf → N ≤ n → runF E lf n f args s = .ok v s'
def goL (E : Env) (ks : Nat) (b : Code) (a : A) (s : St) (Q : Ex → A → St → Prop) : Prop :=
  ∃ e a' s' k N, e ≠ .nm ∧ (∀ lf n, N ≤ lf → N ≤ n → rounds (evCode E (runF E lf n) ks lf b) k a s = .ok e a' s') ∧ Q e a' s'

section
variable {E : Env} {ks : Nat} {k : List Fr} {a : A} {s : St} {Q : Ex → A → St → Prop}

theorem goE_congr {e e2 : Ex} {k k2 : List Fr} {a a2 : A} {s s2 : St} (h : ∀ call lf, runK E call ks lf k (.ok e a s) = runK E call ks lf k2 (.ok e2 a2 s2)) : goE E ks e k a s Q = goE E ks e2 k2 a2 s2 Q := by
  unfold goE
  simp only [h]
theorem go_nil : go E ks [] a s Q = Q .nm a s := by
  unfold go goE
  simp only [runK]
  exact propext ⟨fun ⟨e, a', s', N, h, q⟩ => by have := h N N (Nat.le_refl _) (Nat.le_refl _); cases this; exact q, fun q => ⟨_, _, _, 0, fun _ _ _ _ => rfl, q⟩⟩
theorem goE_nil (e : Ex) : goE E ks e [] a s Q = Q e a s := by
  unfold goE
  simp only [runK]
  exact propext ⟨fun ⟨e, a', s', N, h, q⟩ => by have := h N N (Nat.le_refl _) (Nat.le_refl _); cases this; exact q, fun q => ⟨_, _, _, 0, fun _ _ _ _ => rfl, q⟩⟩
theorem goE_nm : goE E ks .nm k a s Q = go E ks k a s Q := rfl
theorem goE_c {e : Ex} (he : e ≠ .nm) (c : Code) : goE E ks e (.c c :: k) a s Q = goE E ks e k a s Q := goE_congr fun call lf => by simp only [runK, andThen_ne he]
theorem goE_o {e : Ex} (he : e ≠ .nm) (ops l : List Oper) : goE E ks e (.o ops l :: k) a s Q = goE E ks e k a s Q := goE_congr fun call lf => by simp only [runK, andThen_ne he]
theorem goE_ex_c (i : Nat) (c : Code) : goE E ks (.ex i) (.c c :: k) a s Q = goE E ks (.ex i) k a s Q := goE_c (by intro h; cases h) c
theorem goE_ret_c (c : Code) : goE E ks .ret (.c c :: k) a s Q = goE E ks .ret k a s Q := goE_c (by intro h; cases h) c
theorem goE_ex_b (i j : Nat) : goE E ks (.ex i) (.b j :: k) a s Q = if i = j then go E ks k a s Q else goE E ks (.ex i) k a s Q := by
  by_cases h : i = j
  · subst h
    rw [if_pos rfl]
    refine goE_congr fun call lf => ?_
    simp only [runK]
    congr 1
    show (@Bool.rec (fun _ => R) (.ok (.ex i) a s) (.ok .nm a s) (Nat.beq i i)) = _
    rw [show Nat.beq i i = true from Nat.beq_refl i]
  · rw [if_neg h]
    refine goE_congr fun call lf => ?_
    simp only [runK]
    congr 1
    show (@Bool.rec (fun _ => R) (.ok (.ex i) a s) (.ok .nm a s) (Nat.beq i j)) = _
    rw [show Nat.beq i j = false from by cases hb : Nat.beq i j with | false => rfl | true => exact absurd (Nat.eq_of_beq_eq_true hb) h]
theorem goE_ret_b (j : Nat) : goE E ks .ret (.b j :: k) a s Q = goE E ks .ret k a s Q := goE_congr fun call lf => rfl
theorem go_b (j : Nat) : go E ks (.b j :: k) a s Q = go E ks k a s Q := goE_congr fun call lf => rfl
theorem go_skip : go E ks (.c .skip :: k) a s Q = go E ks k a s Q := goE_congr fun call lf => rfl
theorem go_seq (x y : Code) : go E ks (.c (.seq x y) :: k) a s Q = go E ks (.c x :: .c y :: k) a s Q := goE_congr fun call lf => rfl
theorem go_block (i : Nat) (b : Code) : go E ks (.c (.block i b) :: k) a s Q = go E ks (.c b :: .b i :: k) a s Q := goE_congr fun call lf => rfl
theorem go_scope (b : Code) : go E ks (.c (.scope b) :: k) a s Q = go E ks (.c b :: k) a s Q := goE_congr fun call lf => rfl
theorem go_label (l : Nat) : go E ks (.c (.label l) :: k) a s Q = go E ks k a s Q := goE_congr fun call lf => rfl
theorem go_exit (i : Nat) : go E ks (.c (.exit i) :: k) a s Q = goE E ks (.ex i) k a s Q := goE_congr fun call lf => rfl
theorem go_ret : go E ks (.c .ret :: k) a s Q = goE E ks .ret k a s Q := goE_congr fun call lf => rfl
theorem go_region (i : Nat) (ops : Array Oper) : go E ks (.c (.region i ops false) :: k) a s Q = go E ks (.o ops.toList ops.toList :: k) a s Q := goE_congr fun call lf => rfl
def goB (E : Env) (ks : Nat) (b : Option Bool) (k1 k2 : List Fr) (a : A) (s : St) (Q : Ex → A → St → Prop) : Prop := match b with
  | some true => go E ks k1 a s Q
  | some false => go E ks k2 a s Q
  | none => False
theorem goB_tt (k1 k2 : List Fr) : goB E ks (some true) k1 k2 a s Q = go E ks k1 a s Q := rfl
theorem goB_ff (k1 k2 : List Fr) : goB E ks (some false) k1 k2 a s Q = go E ks k2 a s Q := rfl
theorem goB_some (b : Bool) (k1 k2 : List Fr) : goB E ks (some b) k1 k2 a s Q = ((b = true → go E ks k1 a s Q) ∧ (b = false → go E ks k2 a s Q)) := by cases b <;> simp [goB]
theorem runK_bad (call : CallF) (lf : Nat) : ∀ k : List Fr, runK E call ks lf k .bad = .bad
  | [] => rfl
  | .c c :: k => by simp only [runK, andThen_bad]; exact runK_bad call lf k
  | .o _ _ :: k => by simp only [runK, andThen_bad]; exact runK_bad call lf k
  | .b _ :: k => by simp only [runK]; exact runK_bad call lf k
theorem go_bad_of {x : Fr} (h : ∀ call lf, runK E call ks lf (x :: k) (.ok .nm a s) = .bad) : go E ks (x :: k) a s Q = False := by
  unfold go goE
  refine propext ⟨fun ⟨e, a', s', N, h', q⟩ => ?_, False.elim⟩
  have := h' N N (Nat.le_refl _) (Nat.le_refl _)
  rw [h] at this
  cases this
theorem go_cond (c : Operand) (x y : Code) : go E ks (.c (.cond c x y) :: k) a s Q = goB E ks (opnd a c).toB (.c x :: k) (.c y :: k) a s Q := by
  cases h : (opnd a c).toB with
  | none => exact go_bad_of fun call lf => by
              simp only [runK, andThen_nm]
              have : evCode E call ks lf (.cond c x y) a s = .bad := by
                show condR (opnd a c).toB _ _ = .bad
                rw [h]; rfl
              rw [this, runK_bad]
  | some b =>
    cases b with
    | true =>
      refine goE_congr fun call lf => ?_
      simp only [runK, andThen_nm]
      congr 1
      show condR (opnd a c).toB _ _ = _
      rw [h]; rfl
    | false =>
      refine goE_congr fun call lf => ?_
      simp only [runK, andThen_nm]
      congr 1
      show condR (opnd a c).toB _ _ = _
      rw [h]; rfl
theorem go_ops_nil (ops : List Oper) : go E ks (.o ops [] :: k) a s Q = go E ks k a.flush s Q := goE_congr fun call lf => rfl

def goO (E : Env) (ks : Nat) (r : Option V) (ops l : List Oper) (dst : Option Nat) (k : List Fr) (a : A) (s : St) (Q : Ex → A → St → Prop) : Prop := match r with
  | some v => go E ks (.o ops l :: k) (putA ks a dst v) s Q
  | none => False
theorem goO_some (v : V) (ops l : List Oper) (dst : Option Nat) : goO E ks (some v) ops l dst k a s Q = go E ks (.o ops l :: k) (putA ks a dst v) s Q := rfl
def goV (E : Env) (ks : Nat) (r : VS) (ops l : List Oper) (dst : Option Nat) (k : List Fr) (a : A) (Q : Ex → A → St → Prop) : Prop := match r with
  | .ok v s => go E ks (.o ops l :: k) (putA ks a dst v) s Q
  | .no => False
theorem goV_ok (v : V) (ops l : List Oper) (dst : Option Nat) : goV E ks (.ok v s) ops l dst k a Q = go E ks (.o ops l :: k) (putA ks a dst v) s Q := rfl
def goN (E : Env) (ks : Nat) (r : Option (V × Blk)) (ops l : List Oper) (dst : Option Nat) (k : List Fr) (a : A) (s : St) (Q : Ex → A → St → Prop) : Prop := match r with
  | some (v, b) => go E ks (.o ops l :: k) (putA ks a dst v) (s.new b) Q
  | none => False
theorem goN_some (v : V) (b : Blk) (ops l : List Oper) (dst : Option Nat) : goN E ks (some (v, b)) ops l dst k a s Q = go E ks (.o ops l :: k) (putA ks a dst v) (s.new b) Q := rfl
def goG (E : Env) (ks : Nat) (b : Option Bool) (ops : List Oper) (o : Oper) (l : List Oper) (k : List Fr) (a : A) (s : St) (Q : Ex → A → St → Prop) : Prop := match b with
  | some true => go E ks (.o ops (o :: l) :: k) a s Q
  | some false => go E ks (.o ops l :: k) (putA ks a o.dst skipV) s Q
  | none => False
theorem goG_tt (ops : List Oper) (o : Oper) (l : List Oper) : goG E ks (some true) ops o l k a s Q = go E ks (.o ops (o :: l) :: k) a s Q := rfl
theorem goG_ff (ops : List Oper) (dst : Option Nat) (op : Op) (ty : TypeId) (pos : String) (af : Array Edge) (l : List Oper) : goG E ks (some false) ops ⟨dst, op, ty, pos, af, none⟩ l k a s Q = go E ks (.o ops l :: k) (putA ks a dst skipV) s Q := rfl

variable (ops l : List Oper) (dst : Option Nat) (ty : TypeId) (pos : String) (af : Array Edge)

theorem go_op {op : Op} {r : VS} (h : ∀ call, evOp E call op a s = r) :
    go E ks (.o ops (⟨dst, op, ty, pos, af, none⟩ :: l) :: k) a s Q = goV E ks r ops l dst k a Q := by
  have hev : ∀ call, evOps E call ks ops (⟨dst, op, ty, pos, af, none⟩ :: l) a s = match r with | .ok v s' => evOps E call ks ops l (putA ks a dst v) s' | .no => .no := by
    intro call
    show (@VS.rec (fun _ => AS) (fun v s => evOps E call ks ops l (putA ks a dst v) s) .no (evOp E call op a s)) = _
    rw [h call]
    cases r <;> rfl
  cases r with
  | ok v s' =>
    refine goE_congr fun call lf => ?_
    simp only [runK, andThen_nm, hev]
  | no =>
    refine go_bad_of fun call lf => ?_
    simp only [runK, andThen_nm, hev]
    exact runK_bad call lf k
theorem goV_okR (r : Option V) : goV E ks (okR r s) ops l dst k a Q = goO E ks r ops l dst k a s Q := by cases r <;> rfl
theorem go_r {op : Op} {rd : Bool} {f : Env → A → Look → Option V} (h : opK op = .r rd f) :
    go E ks (.o ops (⟨dst, op, ty, pos, af, none⟩ :: l) :: k) a s Q = goO E ks (f E a s.h.get) ops l dst k a s Q := by
  rw [go_op ops l dst ty pos af (r := okR (f E a s.h.get) s) (fun call => by unfold evOp; rw [h]; rfl), goV_okR]
theorem go_n {op : Op} {f : Env → A → Nat → Option (V × Blk)} (h : opK op = .n f) :
    go E ks (.o ops (⟨dst, op, ty, pos, af, none⟩ :: l) :: k) a s Q = goN E ks (f E a s.nx) ops l dst k a s Q := by
  rw [go_op ops l dst ty pos af (r := okN (f E a s.nx) s) (fun call => by unfold evOp; rw [h]; rfl)]
  cases f E a s.nx with
  | none => rfl
  | some p => cases p; rfl
theorem go_a {op : Op} {f : Env → A → St → VS} (h : opK op = .a fun E _ a s => f E a s) :
    go E ks (.o ops (⟨dst, op, ty, pos, af, none⟩ :: l) :: k) a s Q = goV E ks (f E a s) ops l dst k a Q :=
  go_op ops l dst ty pos af (fun call => by unfold evOp; rw [h]; rfl)
theorem go_guard {op : Op} (g : Nat × Bool) : go E ks (.o ops (⟨dst, op, ty, pos, af, some g⟩ :: l) :: k) a s Q =
    goG E ks (guardOk a ops g.1 g.2) ops ⟨dst, op, ty, pos, af, none⟩ l k a s Q := by
  have hev : ∀ call, evOps E call ks ops (⟨dst, op, ty, pos, af, some g⟩ :: l) a s = match guardOk a ops g.1 g.2 with
      | some true => evOps E call ks ops (⟨dst, op, ty, pos, af, none⟩ :: l) a s
      | some false => evOps E call ks ops l (putA ks a dst skipV) s
      | none => .no := by
    intro call
    show (@Option.rec Bool (fun _ => AS) .no (fun b => @Bool.rec (fun _ => AS) (evOps E call ks ops l (putA ks a dst skipV) s)
      (@VS.rec (fun _ => AS) (fun v s => evOps E call ks ops l (putA ks a dst v) s) .no (evOp E call op a s)) b) (guardOk a ops g.1 g.2)) = _
    cases guardOk a ops g.1 g.2 with
    | none => rfl
    | some b => cases b <;> rfl
  cases h : guardOk a ops g.1 g.2 with
  | none =>
    refine go_bad_of fun call lf => ?_
    simp only [runK, andThen_nm, hev, h]
    exact runK_bad call lf k
  | some b =>
    cases b <;> (refine goE_congr fun call lf => ?_; simp only [runK, andThen_nm, hev, h])

def goC (E : Env) (f : Nat) (args : List W) (s : St) (K : V → St → Prop) : Prop := ∃ v s', CallR E f args s v s' ∧ K v s'
theorem go_call {f : Operand} {args : Array Operand} {ts : Array TypeId} {g : Nat} {cap : List (Nat × Nat)} {ws : List W} (hf : opC a f = some (.fn g cap)) (hw : argsOf a args.toList = some ws)
    (h : goC E g (ws ++ capW cap) s fun v s' => go E ks (.o ops l :: k) (putA ks a dst v) s' Q) :
    go E ks (.o ops (⟨dst, .call ⟨.value f, args, ts⟩, ty, pos, af, none⟩ :: l) :: k) a s Q := by
  obtain ⟨v, s', ⟨N, hN⟩, e', a', s2, M, hM, hQ⟩ := h
  refine ⟨e', a', s2, N + M, fun lf n h1 h2 => ?_, hQ⟩
  have hev : evOps E (runF E lf n) ks ops (⟨dst, .call ⟨.value f, args, ts⟩, ty, pos, af, none⟩ :: l) a s = evOps E (runF E lf n) ks ops l (putA ks a dst v) s' := by
    show (@VS.rec (fun _ => AS) (fun v s => evOps E (runF E lf n) ks ops l (putA ks a dst v) s) .no (aFun (runF E lf n) a f args.toList s)) = _
    unfold aFun
    rw [hf, hw]
    simp only []
    rw [hN lf n (by omega) (by omega)]
  have := hM lf n (by omega) (by omega)
  simp only [runK, andThen_nm] at this ⊢
  rw [hev]
  exact this

theorem go_loop {b : Code} (h : goL E ks b a s fun e a' s' => goE E ks e k a' s' Q) : go E ks (.c (.loop b) :: k) a s Q := by
  obtain ⟨e, a', s', n0, N, he, hr, e2, a2, s2, M, hM, hQ⟩ := h
  refine ⟨e2, a2, s2, N + M + n0, fun lf n h1 h2 => ?_, hQ⟩
  have hloop : evCode E (runF E lf n) ks lf (.loop b) a s = .ok e a' s' := by
    show loopEnd (iter (evCode E (runF E lf n) ks lf b) lf a s) = _
    rw [iter_rounds]
    have : n0 ≤ 2 ^ lf := Nat.le_trans (by omega) (Nat.le_of_lt (Nat.lt_two_pow_self (n := lf)))
    rw [show 2 ^ lf = n0 + (2 ^ lf - n0) by omega, rounds_more (hr lf n (by omega) (by omega)) he]
    cases e <;> first | rfl | exact absurd rfl he
  simp only [runK, andThen_nm, hloop]
  exact hM lf n (by omega) (by omega)
theorem goL_step {b : Code} (h : go E ks [.c b] a s fun e a' s' => match e with | .nm => goL E ks b a' s' Q | e => Q e a' s') : goL E ks b a s Q := by
  obtain ⟨e, a', s', N, hN, hQ⟩ := h
  have hN' : ∀ lf n, N ≤ lf → N ≤ n → evCode E (runF E lf n) ks lf b a s = .ok e a' s' := hN
  cases e with
  | nm =>
    obtain ⟨e2, a2, s2, k2, M, he, hM, hQ2⟩ := hQ
    refine ⟨e2, a2, s2, k2 + 1, N + M, he, fun lf n h1 h2 => ?_, hQ2⟩
    show andThen _ _ = _
    rw [hN' lf n (by omega) (by omega)]
    exact hM lf n (by omega) (by omega)
  | ex i =>
    refine ⟨.ex i, a', s', 1, N, (by intro h; cases h), fun lf n h1 h2 => ?_, hQ⟩
    show andThen _ _ = _
    rw [hN' lf n h1 h2]; rfl
  | ret =>
    refine ⟨.ret, a', s', 1, N, (by intro h; cases h), fun lf n h1 h2 => ?_, hQ⟩
    show andThen _ _ = _
    rw [hN' lf n h1 h2]; rfl
theorem goL_inv {b : Code} (I : Nat → A → St → Prop) {n : Nat} (h0 : I n a s) (step : ∀ n a s, I n a s → go E ks [.c b] a s fun e a' s' => match e with | .nm => ∃ m, m < n ∧ I m a' s' | e => Q e a' s') : goL E ks b a s Q := by
  induction n using Nat.strongRecOn generalizing a s with
  | _ n ih =>
    refine goL_step ?_
    obtain ⟨e, a', s', N, hN, hq⟩ := step n a s h0
    refine ⟨e, a', s', N, hN, ?_⟩
    cases e with
    | nm => obtain ⟨m, hm, hi⟩ := hq; exact ih m hm hi
    | ex i => exact hq
    | ret => exact hq
theorem goL_mono {b : Code} {Q' : Ex → A → St → Prop} (h : goL E ks b a s Q) (hq : ∀ e a s, Q e a s → Q' e a s) : goL E ks b a s Q' := by
  obtain ⟨e, a', s', n0, N, he, hr, h⟩ := h
  exact ⟨e, a', s', n0, N, he, hr, hq _ _ _ h⟩
end

section
variable {E : Env} {f ks : Nat} {args : List W} {s : St}

theorem callR_body {fn : Func} {c : Code} {v : V} {s' : St} (hx : E.ext.get f = none) (hk : E.kps.get f = some ks) (hf : E.fns.get f = some fn) (hb : fn.body = some c) (ha : argsKept ks (lenA args 0) = true)
    (h : go E ks [.c c] (.base 0 ((argsA args 0).get 0) (argsA args 0)) s fun e a' s2 => (∀ i, e ≠ .ex i) ∧ resL (resOf E a' s2 fn.results.toList) s2 = .ok v s') : CallR E f args s v s' := by
  obtain ⟨e, a', s2, N, hN, he, hr⟩ := h
  refine ⟨N + 1, fun lf n h1 h2 => ?_⟩
  obtain ⟨n, rfl⟩ : ∃ m, n = m + 1 := ⟨n - 1, by omega⟩
  show (@Option.rec Ext (fun _ => VS) (@Option.rec Nat (fun _ => VS) .no (fun ks => @Option.rec Func (fun _ => VS) .no (fun fn => runB E (runF E lf n) lf ks fn args s) (E.fns.get f)) (E.kps.get f))
    (fun x => @VS.rec (fun _ => VS) (fun v s' => .ok v s') (@Option.rec Nat (fun _ => VS) .no (fun ks => @Option.rec Func (fun _ => VS) .no (fun fn => runB E (runF E lf n) lf ks fn args s) (E.fns.get f)) (E.kps.get f)) (extF x args s)) (E.ext.get f)) = _
  rw [hx, hk, hf]
  show runB E (runF E lf n) lf ks fn args s = _
  unfold runB
  rw [hb, ha]
  have := hN lf n (by omega) (by omega)
  simp only [runK, andThen_nm] at this
  simp only [this]
  unfold resR
  cases e with
  | nm => exact hr
  | ex i => exact absurd rfl (he i)
  | ret => exact hr
def goR (E : Env) (rs : List ResultVar) (K : V → St → Prop) (e : Ex) (a : A) (s : St) : Prop := match e with
  | .ex _ => False
  | _ => match resOf E a s rs with
    | some l => K (tupOf l) s
    | none => False
theorem goC_body {fn : Func} {c : Code} {K : V → St → Prop} (hx : E.ext.get f = none) (hk : E.kps.get f = some ks) (hf : E.fns.get f = some fn) (hb : fn.body = some c) (ha : argsKept ks (lenA args 0) = true)
    (h : go E ks [.c c] (.base 0 ((argsA args 0).get 0) (argsA args 0)) s (goR E fn.results.toList K)) : goC E f args s K := by
  obtain ⟨e, a', s2, N, hN, hr⟩ := h
  unfold goR at hr
  have : ∃ l, (∀ i, e ≠ .ex i) ∧ resOf E a' s2 fn.results.toList = some l ∧ K (tupOf l) s2 := by
    cases e with
    | ex i => exact hr.elim
    | nm =>
      simp only [] at hr
      split at hr
      · rename_i l hl; exact ⟨l, fun i h => (by cases h), hl, hr⟩
      · exact hr.elim
    | ret =>
      simp only [] at hr
      split at hr
      · rename_i l hl; exact ⟨l, fun i h => (by cases h), hl, hr⟩
      · exact hr.elim
  obtain ⟨l, h1, h2, h3⟩ := this
  exact ⟨_, _, callR_body hx hk hf hb ha ⟨e, a', s2, N, hN, h1, by rw [h2]; rfl⟩, h3⟩
theorem goC_of {v : V} {s' : St} {K : V → St → Prop} (h : CallR E f args s v s') (hk : K v s') : goC E f args s K := ⟨v, s', h, hk⟩
theorem goC_mono {K K' : V → St → Prop} (h : goC E f args s K) (hk : ∀ v s', K v s' → K' v s') : goC E f args s K' := by
  obtain ⟨v, s', h1, h2⟩ := h; exact ⟨v, s', h1, hk v s' h2⟩
theorem callR_ext {x : Ext} {v : V} {s' : St} (hx : E.ext.get f = some x) (h : extF x args s = .ok v s') : CallR E f args s v s' := by
  refine ⟨1, fun lf n h1 h2 => ?_⟩
  obtain ⟨n, rfl⟩ : ∃ m, n = m + 1 := ⟨n - 1, by omega⟩
  show (@Option.rec Ext (fun _ => VS) (@Option.rec Nat (fun _ => VS) .no (fun ks => @Option.rec Func (fun _ => VS) .no (fun fn => runB E (runF E lf n) lf ks fn args s) (E.fns.get f)) (E.kps.get f))
    (fun x => @VS.rec (fun _ => VS) (fun v s' => .ok v s') (@Option.rec Nat (fun _ => VS) .no (fun ks => @Option.rec Func (fun _ => VS) .no (fun fn => runB E (runF E lf n) lf ks fn args s) (E.fns.get f)) (E.kps.get f)) (extF x args s)) (E.ext.get f)) = _
  rw [hx]
  show (@VS.rec (fun _ => VS) (fun v s' => .ok v s') _ (extF x args s)) = _
  rw [h]
end
end Ev

set_option linter.unusedVariables false
set_option linter.unusedSimpArgs false
namespace Ev
open Go

section
variable {E : Env} {ks : Nat} {k : List Fr} {a : A} {s : St} {Q : Ex → A → St → Prop}
variable (ops l : List Oper) (dst : Option Nat) (ty : TypeId) (pos : String) (af : Array Edge)

theorem go_move (x : Operand) : go E ks (.o ops (⟨dst, .move x, ty, pos, af, none⟩ :: l) :: k) a s Q = go E ks (.o ops l :: k) (putA ks a dst (opnd a x)) s Q := go_r ops l dst ty pos af (op := .move x) (rd := false) (f := fun _ a _ => some (opnd a x)) rfl
theorem go_assign (x : Operand) : go E ks (.o ops (⟨dst, .assign x, ty, pos, af, none⟩ :: l) :: k) a s Q = go E ks (.o ops l :: k) (putA ks a dst (opnd a x)) s Q := go_r ops l dst ty pos af (op := .assign x) (rd := false) (f := fun _ a _ => some (opnd a x)) rfl
theorem go_load (t : TypeId) (x : Operand) : go E ks (.o ops (⟨dst, .load t x, ty, pos, af, none⟩ :: l) :: k) a s Q = goO E ks (rLoad E s.h.get a t x) ops l dst k a s Q := go_r ops l dst ty pos af (op := .load t x) (rd := true) (f := fun E a look => rLoad E look a t x) rfl
theorem go_fieldAddr (t : TypeId) (x : Operand) (f : Nat) : go E ks (.o ops (⟨dst, .fieldAddr t x f, ty, pos, af, none⟩ :: l) :: k) a s Q = goO E ks (rFieldAddr E a t x f) ops l dst k a s Q := go_r ops l dst ty pos af (op := .fieldAddr t x f) (rd := false) (f := fun E a look => rFieldAddr E a t x f) rfl
theorem go_binOp (o : BinOp) (t : TypeId) (x y : Operand) (t' : TypeId) : go E ks (.o ops (⟨dst, .binOp o t x y t', ty, pos, af, none⟩ :: l) :: k) a s Q = goO E ks (rBin E a o t x y) ops l dst k a s Q := go_r ops l dst ty pos af (op := .binOp o t x y t') (rd := false) (f := fun E a look => rBin E a o t x y) rfl
theorem go_nilCheck (x : Operand) : go E ks (.o ops (⟨dst, .nilCheck x, ty, pos, af, none⟩ :: l) :: k) a s Q = goO E ks (rNil a x) ops l dst k a s Q := go_r ops l dst ty pos af (op := .nilCheck x) (rd := false) (f := fun E a look => rNil a x) rfl
theorem go_pick (c x y : Operand) : go E ks (.o ops (⟨dst, .pick c x y, ty, pos, af, none⟩ :: l) :: k) a s Q = goO E ks (rPick a c x y) ops l dst k a s Q := go_r ops l dst ty pos af (op := .pick c x y) (rd := false) (f := fun E a look => rPick a c x y) rfl
theorem go_extract (x : Operand) (i : Nat) : go E ks (.o ops (⟨dst, .extract x i, ty, pos, af, none⟩ :: l) :: k) a s Q = goO E ks (rExtract a x i) ops l dst k a s Q := go_r ops l dst ty pos af (op := .extract x i) (rd := false) (f := fun E a look => rExtract a x i) rfl
theorem go_indexAddr (t : TypeId) (x i : Operand) : go E ks (.o ops (⟨dst, .indexAddr t x i, ty, pos, af, none⟩ :: l) :: k) a s Q = goO E ks (rIndexAddr E a t x i) ops l dst k a s Q := go_r ops l dst ty pos af (op := .indexAddr t x i) (rd := false) (f := fun E a look => rIndexAddr E a t x i) rfl
theorem go_build (t : TypeId) (ps : Array (Nat × Operand)) : go E ks (.o ops (⟨dst, .build t ps, ty, pos, af, none⟩ :: l) :: k) a s Q = goO E ks (rBuild E a t ps.toList) ops l dst k a s Q := go_r ops l dst ty pos af (op := .build t ps) (rd := false) (f := fun E a look => rBuild E a t ps.toList) rfl
theorem go_unOp (o : UnOp) (t : TypeId) (x : Operand) : go E ks (.o ops (⟨dst, .unOp o t x, ty, pos, af, none⟩ :: l) :: k) a s Q = goO E ks (rUn a o x) ops l dst k a s Q := go_r ops l dst ty pos af (op := .unOp o t x) (rd := false) (f := fun E a look => rUn a o x) rfl
theorem go_slice (t : TypeId) (x : Operand) (lo hi mx : Option Operand) : go E ks (.o ops (⟨dst, .slice t x lo hi mx, ty, pos, af, none⟩ :: l) :: k) a s Q = goO E ks (rSlice E s.h.get a t x lo hi mx) ops l dst k a s Q := go_r ops l dst ty pos af (op := .slice t x lo hi mx) (rd := true) (f := fun E a look => rSlice E look a t x lo hi mx) rfl
theorem go_makeInterface (t : TypeId) (x : Operand) : go E ks (.o ops (⟨dst, .makeInterface t x, ty, pos, af, none⟩ :: l) :: k) a s Q = goO E ks (rMakeInterface E a t x) ops l dst k a s Q := go_r ops l dst ty pos af (op := .makeInterface t x) (rd := false) (f := fun E a look => rMakeInterface E a t x) rfl
theorem go_index (t : TypeId) (x i : Operand) : go E ks (.o ops (⟨dst, .index t x i, ty, pos, af, none⟩ :: l) :: k) a s Q = goO E ks (rIndex E a t x i) ops l dst k a s Q := go_r ops l dst ty pos af (op := .index t x i) (rd := false) (f := fun E a look => rIndex E a t x i) rfl
theorem go_field (t : TypeId) (x : Operand) (f : Nat) : go E ks (.o ops (⟨dst, .field t x f, ty, pos, af, none⟩ :: l) :: k) a s Q = goO E ks (rField E a t x f) ops l dst k a s Q := go_r ops l dst ty pos af (op := .field t x f) (rd := false) (f := fun E a look => rField E a t x f) rfl
theorem go_makeFunc (f : Fn) (x y : Array Operand) : go E ks (.o ops (⟨dst, .makeFunc f x y, ty, pos, af, none⟩ :: l) :: k) a s Q = goO E ks (rMakeFunc a f x.toList y.toList) ops l dst k a s Q := go_r ops l dst ty pos af (op := .makeFunc f x y) (rd := false) (f := fun E a look => rMakeFunc a f x.toList y.toList) rfl
theorem go_lookup (t : TypeId) (m x : Operand) (ok : Bool) : go E ks (.o ops (⟨dst, .lookup t m x ok, ty, pos, af, none⟩ :: l) :: k) a s Q = goO E ks (rLookup E s.h.get a t m x ok) ops l dst k a s Q := go_r ops l dst ty pos af (op := .lookup t m x ok) (rd := true) (f := fun E a look => rLookup E look a t m x ok) rfl
theorem go_typeAssert (x : Operand) (t t' : TypeId) (ok : Bool) : go E ks (.o ops (⟨dst, .typeAssert x t t' ok, ty, pos, af, none⟩ :: l) :: k) a s Q = goO E ks (rTypeAssert E a x t' ok) ops l dst k a s Q := go_r ops l dst ty pos af (op := .typeAssert x t t' ok) (rd := false) (f := fun E a look => rTypeAssert E a x t' ok) rfl
theorem go_len (x : Operand) (ts : Array TypeId) : go E ks (.o ops (⟨dst, .call ⟨.builtin .len, #[x], ts⟩, ty, pos, af, none⟩ :: l) :: k) a s Q = goO E ks (rLen E s.h.get a ts x) ops l dst k a s Q := go_r ops l dst ty pos af (op := .call ⟨.builtin .len, #[x], ts⟩) (rd := true) (f := fun E a look => rLen E look a ts x) rfl
theorem go_cap (x : Operand) (ts : Array TypeId) : go E ks (.o ops (⟨dst, .call ⟨.builtin .cap, #[x], ts⟩, ty, pos, af, none⟩ :: l) :: k) a s Q = goO E ks (rCap E s.h.get a ts x) ops l dst k a s Q := go_r ops l dst ty pos af (op := .call ⟨.builtin .cap, #[x], ts⟩) (rd := true) (f := fun E a look => rCap E look a ts x) rfl
theorem go_min (x y : Operand) (ts : Array TypeId) : go E ks (.o ops (⟨dst, .call ⟨.builtin .min, #[x, y], ts⟩, ty, pos, af, none⟩ :: l) :: k) a s Q = goO E ks (rMin a x y) ops l dst k a s Q := go_r ops l dst ty pos af (op := .call ⟨.builtin .min, #[x, y], ts⟩) (rd := true) (f := fun E a look => rMin a x y) rfl
theorem go_max (x y : Operand) (ts : Array TypeId) : go E ks (.o ops (⟨dst, .call ⟨.builtin .max, #[x, y], ts⟩, ty, pos, af, none⟩ :: l) :: k) a s Q = goO E ks (rMax a x y) ops l dst k a s Q := go_r ops l dst ty pos af (op := .call ⟨.builtin .max, #[x, y], ts⟩) (rd := true) (f := fun E a look => rMax a x y) rfl
theorem go_box (t : TypeId) (x : Operand) : go E ks (.o ops (⟨dst, .box t x, ty, pos, af, none⟩ :: l) :: k) a s Q = goN E ks (nBox a x s.nx) ops l dst k a s Q := go_n ops l dst ty pos af (op := .box t x) (f := fun E a id => nBox a x id) rfl
theorem go_alloc (t : TypeId) : go E ks (.o ops (⟨dst, .alloc t, ty, pos, af, none⟩ :: l) :: k) a s Q = goN E ks (nAlloc E t s.nx) ops l dst k a s Q := go_n ops l dst ty pos af (op := .alloc t) (f := fun E a id => nAlloc E t id) rfl
theorem go_buildSlice (t : TypeId) (n : Nat) (ps : Array (Nat × Operand)) : go E ks (.o ops (⟨dst, .buildSlice t n ps, ty, pos, af, none⟩ :: l) :: k) a s Q = goN E ks (nBuildSlice E a t n ps.toList s.nx) ops l dst k a s Q := go_n ops l dst ty pos af (op := .buildSlice t n ps) (f := fun E a id => nBuildSlice E a t n ps.toList id) rfl
theorem go_makeSlice (t : TypeId) (x y : Operand) : go E ks (.o ops (⟨dst, .makeSlice t x y, ty, pos, af, none⟩ :: l) :: k) a s Q = goN E ks (nMakeSlice E a t x y s.nx) ops l dst k a s Q := go_n ops l dst ty pos af (op := .makeSlice t x y) (f := fun E a id => nMakeSlice E a t x y id) rfl
theorem go_makeMap (t : TypeId) : go E ks (.o ops (⟨dst, .makeMap t none, ty, pos, af, none⟩ :: l) :: k) a s Q = go E ks (.o ops l :: k) (putA ks a dst (vc (.map s.nx))) (s.new (.map [])) Q := go_n ops l dst ty pos af (op := .makeMap t none) (f := fun _ _ id => some (vc (.map id), .map [])) rfl
theorem go_range (t : TypeId) (x : Operand) : go E ks (.o ops (⟨dst, .range t x, ty, pos, af, none⟩ :: l) :: k) a s Q = goN E ks (nRange E a t x s.nx) ops l dst k a s Q := go_n ops l dst ty pos af (op := .range t x) (f := fun E a id => nRange E a t x id) rfl
theorem go_store (t : TypeId) (x v : Operand) : go E ks (.o ops (⟨dst, .store t x v, ty, pos, af, none⟩ :: l) :: k) a s Q = goV E ks (aStore E a t x v s) ops l dst k a Q := go_op ops l dst ty pos af fun _ => rfl
theorem go_append (x y : Operand) (ts : Array TypeId) : go E ks (.o ops (⟨dst, .call ⟨.builtin .append, #[x, y], ts⟩, ty, pos, af, none⟩ :: l) :: k) a s Q = goV E ks (aAppend E a ts x y s) ops l dst k a Q := go_op ops l dst ty pos af fun _ => rfl
theorem go_copy (x y : Operand) (ts : Array TypeId) : go E ks (.o ops (⟨dst, .call ⟨.builtin .copy, #[x, y], ts⟩, ty, pos, af, none⟩ :: l) :: k) a s Q = goV E ks (aCopy E a ts x y s) ops l dst k a Q := go_op ops l dst ty pos af fun _ => rfl
theorem go_mapUpdate (t : TypeId) (m x v : Operand) : go E ks (.o ops (⟨dst, .mapUpdate t m x v, ty, pos, af, none⟩ :: l) :: k) a s Q = goV E ks (aMap E t a m x v s) ops l dst k a Q := go_op ops l dst ty pos af fun _ => rfl
theorem go_insert (t : TypeId) (m x v : Operand) : go E ks (.o ops (⟨dst, .insert t m x v, ty, pos, af, none⟩ :: l) :: k) a s Q = goV E ks (aMap E t a m x v s) ops l dst k a Q := go_op ops l dst ty pos af fun _ => rfl
theorem go_next (x : Operand) (b : Bool) : go E ks (.o ops (⟨dst, .next x b, ty, pos, af, none⟩ :: l) :: k) a s Q = goV E ks (aNext a x b s) ops l dst k a Q := go_op ops l dst ty pos af fun _ => rfl
theorem go_convert {t t' : TypeId} (h : isNew E t' = false) (x : Operand) : go E ks (.o ops (⟨dst, .convert t t' x, ty, pos, af, none⟩ :: l) :: k) a s Q = goO E ks (rConvert E s.h.get a t t' x) ops l dst k a s Q := by
  rw [go_op ops l dst ty pos af (r := okR (rConvert E s.h.get a t t' x) s) (fun call => by
    show (match isNew E t' with | true => okN (nConv E a t t' x s.nx) s | false => okR (rConvert E s.h.get a t t' x) s) = _
    rw [h]), goV_okR]
end

theorem opnd_tmp (a : A) (t : Nat) : opnd a (.tmp t) = a.get t := rfl
theorem opnd_int (a : A) (k : IntKind) (n : Int) : opnd a (.const (.int k n)) = vc (.int k n) := rfl
theorem opnd_bool (a : A) (b : Bool) : opnd a (.const (.bool b)) = vc (.bool b) := rfl
theorem opnd_nils (a : A) : opnd a (.const (.slice none 0 0)) = vc .nils := rfl
theorem opnd_nilp (a : A) : opnd a (.const (.pointer none)) = vc .nilp := rfl
theorem opnd_nili (a : A) : opnd a (.const .nilIface) = vc .nili := rfl
theorem opnd_func (a : A) (f : Nat) : opnd a (.func f) = vc (.fn f []) := rfl
theorem opnd_global (a : A) (g : Nat) : opnd a (.global g) = vc (.ptr g 0) := rfl
theorem opnd_str (a : A) (b : ByteArray) : opnd a (.const (.string b)) = vc (.str (Str.of b)) := rfl
theorem A.get_putP (d : Nat) (v : V) (k : Bool) (a : A) (t : Nat) : (A.put d v k a).get t = if d = t then v else a.get t := by
  show (@Bool.rec (fun _ => V) (a.get t) v (Nat.beq d t)) = _
  by_cases h : d = t
  · subst h; rw [show Nat.beq d d = true from Nat.beq_refl d, if_pos rfl]
  · rw [if_neg h, show Nat.beq d t = false from by cases hb : Nat.beq d t with | false => rfl | true => exact absurd (Nat.eq_of_beq_eq_true hb) h]
theorem A.get_baseP (d : Nat) (v : V) (l : L) (t : Nat) : (A.base d v l).get t = if d = t then v else l.get t := by
  show (@Bool.rec (fun _ => V) (l.get t) v (Nat.beq d t)) = _
  by_cases h : d = t
  · subst h; rw [show Nat.beq d d = true from Nat.beq_refl d, if_pos rfl]
  · rw [if_neg h, show Nat.beq d t = false from by cases hb : Nat.beq d t with | false => rfl | true => exact absurd (Nat.eq_of_beq_eq_true hb) h]
theorem L.get_consP (d : Nat) (v : V) (l : L) (t : Nat) : (L.cons d v l).get t = if d = t then v else l.get t := by
  show (@Bool.rec (fun _ => V) (l.get t) v (Nat.beq d t)) = _
  by_cases h : d = t
  · subst h; rw [show Nat.beq d d = true from Nat.beq_refl d, if_pos rfl]
  · rw [if_neg h, show Nat.beq d t = false from by cases hb : Nat.beq d t with | false => rfl | true => exact absurd (Nat.eq_of_beq_eq_true hb) h]
theorem L.get_setP : ∀ (l : L) (d : Nat) (v : V) (t : Nat), (l.set d v).get t = if d = t then v else l.get t
  | .nil, d, v, t => L.get_consP d v .nil t
  | .cons e u l, d, v, t => by
    show (@Bool.rec (fun _ => L) (.cons e u (l.set d v)) (.cons d v l) (Nat.beq e d) : L).get t = _
    by_cases h : e = d
    · subst h
      rw [show Nat.beq e e = true from Nat.beq_refl e]
      show (L.cons e v l).get t = _
      rw [L.get_consP, L.get_consP]
      split <;> rfl
    · rw [show Nat.beq e d = false from by cases hb : Nat.beq e d with | false => rfl | true => exact absurd (Nat.eq_of_beq_eq_true hb) h]
      show (L.cons e u (l.set d v)).get t = _
      rw [L.get_consP, L.get_consP, L.get_setP l d v t]
      by_cases h1 : e = t
      · subst h1
        rw [if_pos rfl, if_neg (Ne.symm h), if_pos rfl]
      · rw [if_neg h1, if_neg h1]
theorem L.get_nilP (t : Nat) : L.nil.get t = .un := rfl
theorem tbit_eqP (ks d : Nat) : tbit ks d = decide ((ks >>> d) % 2 = 1) := by
  unfold tbit
  show Nat.beq ((ks >>> d) &&& 1) 1 = _
  rw [Nat.and_one_is_mod]
  cases h : Nat.beq (ks >>> d % 2) 1 with
  | true => exact (decide_eq_true (Nat.eq_of_beq_eq_true h)).symm
  | false =>
    symm
    rw [decide_eq_false_iff_not]
    intro h2
    rw [h2] at h
    cases h
noncomputable def kept (b : Bool) (l : L) (d : Nat) (v : V) : L := if b = true then l.set d v else l
theorem kept_true (l : L) (d : Nat) (v : V) : kept true l d v = l.set d v := rfl
theorem kept_false (l : L) (d : Nat) (v : V) : kept false l d v = l := rfl
theorem A.keep_put (d : Nat) (v : V) (k : Bool) (a : A) : (A.put d v k a).keep = kept k a.keep d v := by cases k <;> rfl
theorem A.keep_base (d : Nat) (v : V) (l : L) : (A.base d v l).keep = l := rfl
theorem A.flush_put (d : Nat) (v : V) (k : Bool) (a : A) : (A.put d v k a).flush = .base d v (kept k a.keep d v) := by cases k <;> rfl
theorem A.flush_base (d : Nat) (v : V) (l : L) : (A.base d v l).flush = .base d v l := rfl
theorem putA_some (ks : Nat) (a : A) (d : Nat) (v : V) : putA ks a (some d) v = .put d v (tbit ks d) a := rfl
theorem putA_none (ks : Nat) (a : A) (v : V) : putA ks a none v = a := rfl
theorem argsA_cons (w : W) (l : List W) (i : Nat) : argsA (w :: l) i = .cons i (.w w) (argsA l (i + 1)) := rfl
theorem argsA_nil (i : Nat) : argsA [] i = .nil := rfl

theorem toC_vc (c : C) : (vc c).toC = some c := rfl
theorem toC_c (c : C) : (V.w (.c c)).toC = some c := rfl
theorem toW_vc (c : C) : (vc c).toW = some (.c c) := rfl
theorem toW_w (x : W) : (V.w x).toW = some x := rfl
theorem toI_vc (k : IntKind) (n : Int) : (vc (.int k n)).toI = some n := rfl
theorem toI_c (k : IntKind) (n : Int) : (V.w (.c (.int k n))).toI = some n := rfl
theorem toB_vc (b : Bool) : (vc (.bool b)).toB = some b := rfl
theorem toB_c (b : Bool) : (V.w (.c (.bool b))).toB = some b := rfl
theorem toP_vc (b o : Nat) : (vc (.ptr b o)).toP = some (b, o) := rfl
theorem toP_c (b o : Nat) : (V.w (.c (.ptr b o))).toP = some (b, o) := rfl

theorem St.new_eq (s : St) (b : Blk) : s.new b = ⟨s.h.set s.nx b, s.nx + 1⟩ := by cases s; rfl
theorem getL_succP {α : Type} (t : T α) (n i : Nat) : t.getL (n + 1) i = (t.get i).bind fun x => (t.getL n (i + 1)).map (x :: ·) := T.getL_succ t n i
theorem mkRow_eq (l : List C) : mkRow l = ⟨T.ofL l, l.length, true, 0, []⟩ := by unfold mkRow; rw [lenA_zero]
theorem readR_eq (q : T C) (m o n sh : Nat) (lf : Bool) (anc : List Nat) (h : o + n ≤ m) : readR ⟨q, m, lf, sh, anc⟩ o n = q.getL n o := by
  unfold readR
  simp only []
  rw [show Nat.ble (Nat.add o n) m = true from Nat.ble_eq_true_of_le h]
theorem readL_row {look : Look} {b o n : Nat} {r : Row} (h : look b = some (.row r)) : readL look b o n = readR r o n := by
  unfold readL rowOf; rw [h]; rfl
theorem T.getL_ofL (l : List C) : (T.ofL l).getL l.length 0 = some l := T.getL_of rfl fun j _ => by rw [Nat.zero_add, T.get_ofL]
theorem markS_nil (s : St) : markS s [] = s := by cases s; rfl
theorem sealS_nil (s : St) : sealS s [] = s := by cases s; rfl

def D.plain : D → Bool
  | .ifc _ _ => false
  | _ => true
theorem frzC_plain (look : Look) (n : Nat) (d : D) (h : d.plain = true) : frzC look n d.toC = some (d, []) := by
  cases d <;> first | (cases h; done) | (cases n <;> rfl)
theorem mapO_plain (look : Look) (n : Nat) : ∀ l : List D, l.all D.plain = true → mapO (frzC look n) (cellsD l) = some (l, [])
  | [], _ => rfl
  | d :: l, h => by
    rw [List.all_cons, Bool.and_eq_true] at h
    show mapO (frzC look n) (d.toC :: cellsD l) = _
    simp only [mapO, frzC_plain look n d h.1, mapO_plain look n l h.2, List.append_nil]
def PW.plain : PW → Bool
  | .c d => d.plain
  | .agg l => l.all D.plain
theorem frzW_plain (look : Look) (x : PW) (h : x.plain = true) : frzW look x.toW = some (x, []) := by
  cases x with
  | c d =>
    show frzW look (.c d.toC) = _
    simp only [frzW, frzC_plain look 2000 d h]
  | agg l =>
    show frzW look (.agg (cellsD l)) = _
    simp only [frzW, mapO_plain look 2000 l h]
theorem frzWs_plain (look : Look) : ∀ l : List PW, l.all PW.plain = true → frzWs look (l.map PW.toW) = some (l, [])
  | [], _ => rfl
  | d :: l, h => by
    rw [List.all_cons, Bool.and_eq_true] at h
    simp only [List.map_cons, frzWs, frzW_plain look d h.1, frzWs_plain look l h.2, List.append_nil]
theorem callR_fn {E : Env} {f : Nat} {F : List PW → Option PV} {ps : List PW} {pv : PV} {s : St} (hx : E.ext.get f = some (.fn F [])) (hF : F ps = some pv) (hp : ps.all PW.plain = true) : CallR E f (ps.map PW.toW) s pv.toV s := by
  refine callR_ext hx ?_
  show extFn F (ps.map PW.toW) s = _
  simp only [extFn, frzWs_plain s.h.get ps hp, hF]
  cases pv.scal <;> simp [markS_nil]
theorem callR_fn_scal {E : Env} {f : Nat} {F : List PW → Option PV} {args : List W} {ps : List PW} {bs : List Nat} {pv : PV} {s : St} (hx : E.ext.get f = some (.fn F [])) (hz : frzWs s.h.get args = some (ps, bs)) (hF : F ps = some pv) (hs : pv.scal = true) :
    CallR E f args s pv.toV s := by
  refine callR_ext hx ?_
  show extFn F args s = _
  simp only [extFn, hz, hF, hs]

theorem flatten_chunk (z : Nat) : ∀ (l : List (List D)), (∀ x ∈ l, x.length = z) → chunkD z l.length l.flatten = l
  | [], _ => rfl
  | x :: l, h => by
    have hx := h x (by simp)
    simp only [List.length_cons, chunkD, List.flatten_cons]
    rw [List.take_left' hx, List.drop_left' hx, flatten_chunk z l fun y hy => h y (by simp [hy])]

noncomputable def ofG (R : List PW → PV → Prop) : List PW → Option PV := fun ps => open Classical in if h : ∃ v, R ps v then some (Classical.choose h) else none
theorem ofG_some {R : List PW → PV → Prop} {ps : List PW} {v : PV} (h : ofG R ps = some v) : R ps v := by
  unfold ofG at h
  split at h
  · rename_i he; cases h; exact Classical.choose_spec he
  · cases h
theorem ofG_eq {R : List PW → PV → Prop} {ps : List PW} {v : PV} (h : R ps v) (hu : ∀ v', R ps v' → v' = v) : ofG R ps = some v := by
  unfold ofG
  have he : ∃ v, R ps v := ⟨v, h⟩
  rw [dif_pos he, hu _ (Classical.choose_spec he)]
end Ev
