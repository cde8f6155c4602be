import Derived.Test.YtaapmoclinjefaaDoorArV7
import Derived.Test.YtaapmoclinjefaaDoorEwL
namespace Ar
open Go Go.Proofs Ev Go.Lib Nu
set_option linter.unusedVariables false
set_option linter.unusedSimpArgs false
set_option linter.unnecessarySimpa false
set_option maxRecDepth 100000
def sDig : List UInt8 := [100, 105, 103, 105, 116, 115]
def sNam : List UInt8 := [110, 97, 109, 101]
def dT : Tr → D
  | .dig t => .pt [.str (Str.ofL sDig), .str (Str.ofL t), .nils] 0
  | .nam t => .pt [.str (Str.ofL sNam), .str (Str.ofL t), .nils] 0
  | .un op k => .pt [.str (Str.ofL op), .str (Str.ofL []), .sl 1 [[dT k]]] 0
  | .bin op a b => .pt [.str (Str.ofL op), .str (Str.ofL []), .sl 1 [[dT a], [dT b]]] 0
theorem dT_plain (t : Tr) : (dT t).plain = true := by cases t <;> rfl
theorem lit_dig : Str.of { data := #[100, 105, 103, 105, 116, 115] } = Str.ofL sDig := of_lit _
theorem lit_nam : Str.of { data := #[110, 97, 109, 101] } = Str.ofL sNam := of_lit _
theorem mapO_same {f f' : C → Option (D × List Nat)} : ∀ (l : List C) (ds : List D) (bs : List Nat), (∀ c d bs', f c = some (d, bs') → (∀ x ∈ bs', x ∈ bs) → f' c = some (d, bs')) → mapO f l = some (ds, bs) → mapO f' l = some (ds, bs)
  | [], ds, bs, _, h => h
  | c :: l, ds, bs, hf, h => by
    simp only [mapO] at h ⊢
    split at h
    · cases h
    · rename_i d b1 e
      split at h
      · cases h
      · rename_i ds' b2 e2
        cases h
        rw [hf c d b1 e (fun x hx => List.mem_append_left _ hx)]
        simp only []
        rw [mapO_same l ds' b2 (fun c d bs' hc hb => hf c d bs' hc fun x hx => List.mem_append_right _ (hb x hx)) e2]
theorem frzRow_same {look look' : Look} {b : Nat} {r : Row} (h : frzRow look b = some r) (hb : look' b = look b) : frzRow look' b = some r := by
  unfold frzRow at h ⊢
  rw [hb]; exact h
theorem frzC_same {look look' : Look} : ∀ (n : Nat) (c : C) (d : D) (bs : List Nat), frzC look n c = some (d, bs) → (∀ x ∈ bs, look' x = look x) → frzC look' n c = some (d, bs) := by
  intro n
  induction n with
  | zero =>
    intro c d bs h hb
    cases c with
    | fn f l => cases l <;> exact h
    | _ => exact h
  | succ n ih =>
    intro c d bs h hb
    cases c with
    | fn f l => cases l <;> exact h
    | ifc t c =>
      simp only [frzC] at h ⊢
      split at h
      · rename_i d' b' e
        cases h
        rw [ih _ _ _ e hb]
      · cases h
    | sl b o k cap z =>
      simp only [frzC] at h ⊢
      split at h
      · cases h
      · rename_i r e
        split at h
        · rename_i hc
          split at h
          · cases h
          · rename_i l hl
            unfold frzSl at h
            split at h
            · cases h
            · rename_i ds b2 hm
              cases h
              rw [frzRow_same e (hb b (List.mem_cons_self ..))]
              simp only [hc, hl]
              rw [mapO_same (f' := frzC look' n) l ds b2 (fun c d bs' hc hbs => ih c d bs' hc fun x hx => hb x (List.mem_cons_of_mem _ (hbs x hx))) hm]
              rfl
        · cases h
    | ptr b o =>
      simp only [frzC] at h ⊢
      split at h
      · cases h
      · rename_i r e
        split at h
        · cases h
        · rename_i l hl
          unfold frzPt at h
          split at h
          · cases h
          · rename_i ds b2 hm
            cases h
            rw [frzRow_same e (hb b (List.mem_cons_self ..))]
            simp only [hl]
            rw [mapO_same (f' := frzC look' n) l ds b2 (fun c d bs' hc hbs => ih c d bs' hc fun x hx => hb x (List.mem_cons_of_mem _ (hbs x hx))) hm]
            rfl
    | _ => exact h
theorem frzRow_L {s : St} {b : Nat} {l : List C} (h : LRow s b l) : ∃ q : T C, frzRow s.h.get b = some ⟨q, l.length, true, 0, []⟩ ∧ q.getL l.length 0 = some l := by
  obtain ⟨q, h1, h2⟩ := h.at_
  exact ⟨q, by unfold frzRow; rw [h1], T.getL_of rfl fun j hj => by rw [Nat.zero_add]; exact h2 j hj⟩
theorem frz_ptr {s : St} {b n : Nat} {l : List C} {ds : List D} {bs : List Nat} (h : LRow s b l) (hm : mapO (frzC s.h.get n) l = some (ds, bs)) : frzC s.h.get (n + 1) (.ptr b 0) = some (.pt ds 0, b :: bs) := by
  obtain ⟨q, h1, h2⟩ := frzRow_L h
  simp only [frzC, h1, readR_eq _ _ _ _ _ _ _ (show 0 + l.length ≤ l.length by omega), h2, hm]
  rfl
theorem frz_slc {s : St} {b n : Nat} {l : List C} {ds : List D} {bs : List Nat} (h : LRow s b l) (hm : mapO (frzC s.h.get n) l = some (ds, bs)) : frzC s.h.get (n + 1) (.sl b 0 l.length (some l.length) 1) = some (.sl 1 (chunkD 1 l.length ds), b :: bs) := by
  obtain ⟨q, h1, h2⟩ := frzRow_L h
  have e : Nat.mul l.length 1 = l.length := Nat.mul_one _
  simp only [frzC, h1, e, readR_eq _ _ _ _ _ _ _ (show 0 + l.length ≤ l.length by omega), h2, hm]
  rfl
def HasT (s : St) (lo m : Nat) (c : C) (t : Tr) : Prop := ∀ n, m ≤ n → ∃ bs, frzC s.h.get n c = some (dT t, bs) ∧ ∀ x ∈ bs, lo < x ∧ x < s.nx
theorem HasT.data (s : St) (lo : Nat) (t : Tr) : HasT s lo 0 (dT t).toC t := fun n _ => ⟨[], frzC_plain _ _ _ (dT_plain t), fun x hx => by cases hx⟩
theorem HasT.keep {s s' : St} {lo m : Nat} {c : C} {t : Tr} (h : HasT s lo m c t) (hn : s.nx ≤ s'.nx) (hk : ∀ x, lo < x → x < s.nx → s'.h.get x = s.h.get x) : HasT s' lo m c t := fun n hm => by
  obtain ⟨bs, h1, h2⟩ := h n hm
  exact ⟨bs, frzC_same n c _ bs h1 fun x hx => hk x (h2 x hx).1 (h2 x hx).2, fun x hx => ⟨(h2 x hx).1, Nat.lt_of_lt_of_le (h2 x hx).2 hn⟩⟩
theorem mapO_nil (f : C → Option (D × List Nat)) : mapO f [] = some ([], []) := rfl
theorem mapO_cons {f : C → Option (D × List Nat)} {c : C} {l : List C} {d : D} {ds : List D} {b1 b2 : List Nat} (h1 : f c = some (d, b1)) (h2 : mapO f l = some (ds, b2)) : mapO f (c :: l) = some (d :: ds, b1 ++ b2) := by
  simp only [mapO, h1, h2]
theorem frz_strC (look : Look) (n : Nat) (z : Str) : frzC look n (.str z) = some (.str z, []) := frzC_plain look n (.str z) rfl
theorem frz_nilsC (look : Look) (n : Nat) : frzC look n .nils = some (.nils, []) := frzC_plain look n .nils rfl
theorem HasT.un {s : St} {lo m q r : Nat} {c : C} {k : Tr} {op : List UInt8} (h : HasT s lo m c k) (hq : LRow s q [c]) (hr : LRow s r [.str (Str.ofL op), .str (Str.ofL []), .sl q 0 1 (some 1) 1]) (h1 : lo < q) (h2 : q < s.nx) (h3 : lo < r) (h4 : r < s.nx) : HasT s lo (m + 2) (.ptr r 0) (.un op k) := fun n hm => by
  obtain ⟨n, rfl⟩ : ∃ n', n = n' + 2 := ⟨n - 2, by omega⟩
  obtain ⟨bs, g1, g2⟩ := h n (by omega)
  have e1 := frz_slc hq (mapO_cons g1 (mapO_nil _))
  have e2 := frz_ptr hr (mapO_cons (frz_strC _ _ _) (mapO_cons (frz_strC _ _ _) (mapO_cons e1 (mapO_nil _))))
  refine ⟨_, e2, fun x hx => ?_⟩
  simp only [List.nil_append, List.append_nil, List.mem_cons] at hx
  rcases hx with rfl | rfl | hx
  · exact ⟨h3, h4⟩
  · exact ⟨h1, h2⟩
  · exact g2 x hx
theorem HasT.bin {s : St} {lo m q r : Nat} {c d : C} {k j : Tr} {op : List UInt8} (h : HasT s lo m c k) (hj : HasT s lo m d j) (hq : LRow s q [c, d]) (hr : LRow s r [.str (Str.ofL op), .str (Str.ofL []), .sl q 0 2 (some 2) 1]) (h1 : lo < q) (h2 : q < s.nx) (h3 : lo < r) (h4 : r < s.nx) : HasT s lo (m + 2) (.ptr r 0) (.bin op k j) := fun n hm => by
  obtain ⟨n, rfl⟩ : ∃ n', n = n' + 2 := ⟨n - 2, by omega⟩
  obtain ⟨bs, g1, g2⟩ := h n (by omega)
  obtain ⟨bj, j1, j2⟩ := hj n (by omega)
  have e1 := frz_slc hq (mapO_cons g1 (mapO_cons j1 (mapO_nil _)))
  have e2 := frz_ptr hr (mapO_cons (frz_strC _ _ _) (mapO_cons (frz_strC _ _ _) (mapO_cons e1 (mapO_nil _))))
  refine ⟨_, e2, fun x hx => ?_⟩
  simp only [List.nil_append, List.append_nil, List.mem_cons, List.mem_append] at hx
  rcases hx with rfl | rfl | hx | hx
  · exact ⟨h3, h4⟩
  · exact ⟨h1, h2⟩
  · exact g2 x hx
  · exact j2 x hx
theorem HasT.leaf {s : St} {lo r : Nat} {t : Tr} {op tx : List UInt8} (ht : dT t = .pt [.str (Str.ofL op), .str (Str.ofL tx), .nils] 0) (hr : LRow s r [.str (Str.ofL op), .str (Str.ofL tx), .nils]) (h3 : lo < r) (h4 : r < s.nx) : HasT s lo 2 (.ptr r 0) t := fun n hm => by
  obtain ⟨n, rfl⟩ : ∃ n', n = n' + 2 := ⟨n - 2, by omega⟩
  have e2 := frz_ptr (n := n + 1) hr (mapO_cons (frz_strC _ _ _) (mapO_cons (frz_strC _ _ _) (mapO_cons (frz_nilsC _ _) (mapO_nil _))))
  rw [ht]
  refine ⟨_, e2, fun x hx => ?_⟩
  simp only [List.nil_append, List.append_nil, List.mem_cons, List.not_mem_nil, or_false] at hx
  subst hx
  exact ⟨h3, h4⟩
theorem HasT.mono {s : St} {lo m m' : Nat} {c : C} {t : Tr} (h : HasT s lo m c t) (hm : m ≤ m') : HasT s lo m' c t := fun n hn => h n (Nat.le_trans hm hn)
theorem HasT.val {s : St} {lo m : Nat} {c : C} {t : Tr} (h : HasT s lo m c t) (hm : m ≤ 2000) : ∃ bs, frzV s.h.get (vc c) = some (.w (.c (dT t)), bs) ∧ lo ∉ bs := by
  obtain ⟨bs, g1, g2⟩ := h 2000 hm
  refine ⟨bs, ?_, fun hx => absurd (g2 lo hx).1 (Nat.lt_irrefl _)⟩
  show frzV s.h.get (.w (.c c)) = _
  simp only [frzV, frzW, g1]
def RK (k : Kd) (n : Nat) (ds : List D) (ps : List PW) (v : PV × List D) : Prop := ∃ l b t l' b', ds = prD l b ∧ ps = [] ∧ l.length < n ∧ Ps k l b t l' b' ∧ v = (.w (.c (dT t)), prD l' b')
theorem rk_u {k : Kd} {n : Nat} {ds : List D} {ps : List PW} {v v' : PV × List D} (h : RK k n ds ps v) (h' : RK k n ds ps v') : v' = v := by
  obtain ⟨l, b, t, l', b', rfl, rfl, _, hp, rfl⟩ := h
  obtain ⟨m, c, u, m', c', h1, _, _, hp', rfl⟩ := h'
  obtain ⟨rfl, rfl⟩ := pr_inj h1
  obtain ⟨rfl, rfl, rfl⟩ := hp.det hp'
  rfl
theorem callR_K {X : T Ext} {f : Nat} {k : Kd} {n : Nat} (h : (En X).ext.get f = some (.me (ofM (RK k n)) [])) {l : List UInt8} {bd : Bool} {t : Tr} {l' : List UInt8} {b' : Bool} (hl : l.length < n) (hp : Ps k l bd t l' b') {b : Nat} {s : St} (hr : LRow s b (cellsD (prD l bd))) :
    ∃ s2, CallR (En X) f [.c (.ptr b 0)] s (.w (.c (dT t).toC)) s2 ∧ LRow s2 b (cellsD (prD l' b')) ∧ s2.nx = s.nx ∧ ∀ x, x ≠ b → s2.h.get x = s.h.get x := by
  have hR : RK k n (prD l bd) [] (.w (.c (dT t)), prD l' b') := ⟨l, bd, t, l', b', rfl, rfl, hl, hp, rfl⟩
  exact callR_me (ps := []) (pv := .w (.c (dT t))) h hr rfl rfl hR (fun v hv => rk_u hR hv) rfl
end Ar
