import Derived.Test.YtnjfcaphpemihaaGreatDoorEwI
import Derived.Test.YtnjfcaphpemihaaGreatDoorEwG
import Derived.SizedLaws
import Derived.Test.YtnjfcaphpemihaaGreatDoorEwF
set_option linter.unusedVariables false
set_option linter.unusedSimpArgs false
namespace Ev
open Go
section
variable {E : Env} {ks : Nat} {k : List Fr} {Q : Ex → A → St → Prop} {a : A} {s : St} {gs : List (Nat × St)} {rs : List Rd} {eff j m base : Nat} {ms : List Nat} {tl : List Oper}
def dgO (E : Env) (ks : Nat) (r : Option V) (ops : List Oper) (base : Nat) (tl l : List Oper) (ms : List Nat) (j : Nat) (dst : Option Nat) (k : List Fr) (a : A) (s : St) (gs : List (Nat × St)) (rs : List Rd) (eff : Nat) (Q : Ex → A → St → Prop) : Prop := match r with
  | none => False
  | some v => dg E ks ops base tl k Q l ms (j + 1) (putA ks a dst v) s gs rs eff
def dgS (E : Env) (ks : Nat) (f : Env → A → Look → Option V) (r : Option V) (ops : List Oper) (base : Nat) (tl l : List Oper) (m : Nat) (ms : List Nat) (j : Nat) (dst : Option Nat) (k : List Fr) (a : A) (s : St) (gs : List (Nat × St)) (rs : List Rd) (eff : Nat) (Q : Ex → A → St → Prop) : Prop := match r with
  | none => False
  | some v => backs E f a v m gs = true ∧ dg E ks ops base tl k Q l ms (j + 1) (putA ks a dst v) s gs (⟨j, f, a, v⟩ :: rs) eff
def dgN (E : Env) (ks : Nat) (r : Option (V × Blk)) (ops : List Oper) (base : Nat) (tl l : List Oper) (ms : List Nat) (j : Nat) (dst : Option Nat) (k : List Fr) (a : A) (s : St) (gs : List (Nat × St)) (rs : List Rd) (eff : Nat) (Q : Ex → A → St → Prop) : Prop := match r with
  | none => False
  | some (v, b) => dg E ks ops base tl k Q l ms (j + 1) (putA ks a dst v) ⟨s.h.set (base + j) b, s.nx⟩ gs rs (Nat.lor eff (Nat.shiftLeft 1 j))
def dgV (E : Env) (ks : Nat) (r : VS) (ops : List Oper) (base : Nat) (tl l : List Oper) (m : Nat) (ms : List Nat) (j : Nat) (dst : Option Nat) (k : List Fr) (a : A) (s : St) (gs : List (Nat × St)) (rs : List Rd) (eff : Nat) (Q : Ex → A → St → Prop) : Prop := match r with
  | .no => False
  | .ok v s' => fores E s' m rs = true ∧ dg E ks ops base tl k Q l ms (j + 1) (putA ks a dst v) s' ((j, s) :: gs) rs (Nat.lor eff (Nat.shiftLeft 1 j))
def dgG (E : Env) (ks : Nat) (b : Option Bool) (ops : List Oper) (base : Nat) (tl : List Oper) (o : Oper) (l : List Oper) (m : Nat) (ms : List Nat) (j : Nat) (k : List Fr) (a : A) (s : St) (gs : List (Nat × St)) (rs : List Rd) (eff : Nat) (Q : Ex → A → St → Prop) : Prop := match b with
  | none => False
  | some false => dg E ks ops base tl k Q l ms (j + 1) (putA ks a o.dst skipV) s gs rs eff
  | some true => dg E ks ops base tl k Q (o :: l) (m :: ms) j a s gs rs eff
variable (ops l : List Oper) (dst : Option Nat) (ty : TypeId) (pos : String) (af : Array Edge)
theorem dgO_some (v : V) : dgO E ks (some v) ops base tl l ms j dst k a s gs rs eff Q = dg E ks ops base tl k Q l ms (j + 1) (putA ks a dst v) s gs rs eff := rfl
theorem dgS_some (f : Env → A → Look → Option V) (v : V) : dgS E ks f (some v) ops base tl l m ms j dst k a s gs rs eff Q = (backs E f a v m gs = true ∧ dg E ks ops base tl k Q l ms (j + 1) (putA ks a dst v) s gs (⟨j, f, a, v⟩ :: rs) eff) := rfl
theorem dgN_some (v : V) (b : Blk) : dgN E ks (some (v, b)) ops base tl l ms j dst k a s gs rs eff Q = dg E ks ops base tl k Q l ms (j + 1) (putA ks a dst v) ⟨s.h.set (base + j) b, s.nx⟩ gs rs (Nat.lor eff (Nat.shiftLeft 1 j)) := rfl
theorem dgV_ok (v : V) (s' : St) : dgV E ks (.ok v s') ops base tl l m ms j dst k a s gs rs eff Q = (fores E s' m rs = true ∧ dg E ks ops base tl k Q l ms (j + 1) (putA ks a dst v) s' ((j, s) :: gs) rs (Nat.lor eff (Nat.shiftLeft 1 j))) := rfl
theorem dgG_tt (o : Oper) : dgG E ks (some true) ops base tl o l m ms j k a s gs rs eff Q = dg E ks ops base tl k Q (o :: l) (m :: ms) j a s gs rs eff := rfl
theorem dgG_ff (op : Op) : dgG E ks (some false) ops base tl ⟨dst, op, ty, pos, af, none⟩ l m ms j k a s gs rs eff Q = dg E ks ops base tl k Q l ms (j + 1) (putA ks a dst skipV) s gs rs eff := rfl
theorem dg_nil : dg E ks ops base tl k Q [] ms j a s gs rs eff = dt E ks tl a s k Q := by unfold dg; rfl
theorem dg_guard (op : Op) (g : Nat × Bool) : dg E ks ops base tl k Q (⟨dst, op, ty, pos, af, some g⟩ :: l) (m :: ms) j a s gs rs eff = dgG E ks (guardOk a ops g.1 g.2) ops base tl ⟨dst, op, ty, pos, af, none⟩ l m ms j k a s gs rs eff Q := by
  have hw : wantedG a ops (some g) = guardOk a ops g.1 g.2 := rfl
  have hw2 : wantedG a ops none = some true := rfl
  unfold dgG
  simp only [dg, hw, hw2]
  cases guardOk a ops g.1 g.2 with
  | none => rfl
  | some b => cases b <;> rfl
theorem dg_r {op : Op} {f : Env → A → Look → Option V} (hk : opK op = .r false f) : dg E ks ops base tl k Q (⟨dst, op, ty, pos, af, none⟩ :: l) (m :: ms) j a s gs rs eff = dgO E ks (f E a s.h.get) ops base tl l ms j dst k a s gs rs eff Q := by
  have hw2 : wantedG a ops none = some true := rfl
  have hkk : kOf E (.r false f) = .r false f := rfl
  unfold dgO
  simp only [dg, hw2, hk, hkk]
  cases f E a s.h.get <;> rfl
theorem dg_rd {op : Op} {f : Env → A → Look → Option V} (hk : opK op = .r true f) : dg E ks ops base tl k Q (⟨dst, op, ty, pos, af, none⟩ :: l) (m :: ms) j a s gs rs eff = dgS E ks f (f E a s.h.get) ops base tl l m ms j dst k a s gs rs eff Q := by
  have hw2 : wantedG a ops none = some true := rfl
  have hkk : kOf E (.r true f) = .r true f := rfl
  unfold dgS
  simp only [dg, hw2, hk, hkk]
  cases f E a s.h.get <;> rfl
theorem dg_n {op : Op} {f : Env → A → Nat → Option (V × Blk)} (hk : opK op = .n f) : dg E ks ops base tl k Q (⟨dst, op, ty, pos, af, none⟩ :: l) (m :: ms) j a s gs rs eff = dgN E ks (f E a (base + j)) ops base tl l ms j dst k a s gs rs eff Q := by
  have hw2 : wantedG a ops none = some true := rfl
  have hkk : kOf E (.n f) = .n f := rfl
  unfold dgN
  simp only [dg, hw2, hk, hkk]
  cases f E a (base + j) <;> rfl
theorem actR_const {f : Env → CallF → A → St → VS} {r : VS} (h : ∀ call, f E call a s = r) (v : V) (s' : St) : ActR E f a s v s' = (r = .ok v s') := by
  unfold ActR
  simp only [h]
  exact propext ⟨fun ⟨N, g⟩ => g N N (Nat.le_refl _) (Nat.le_refl _), fun g => ⟨0, fun _ _ _ _ => g⟩⟩
theorem dg_a {op : Op} {f : Env → CallF → A → St → VS} {r : VS} (hk : opK op = .a f) (h : ∀ call, f E call a s = r) : dg E ks ops base tl k Q (⟨dst, op, ty, pos, af, none⟩ :: l) (m :: ms) j a s gs rs eff = (Nat.beq (Nat.land eff m) eff = true ∧ dgV E ks r ops base tl l m ms j dst k a s gs rs eff Q) := by
  have hw2 : wantedG a ops none = some true := rfl
  have hkk : kOf E (.a f) = .a f := rfl
  simp only [dg, hw2, hk, hkk, actR_const h]
  cases r with
  | no => unfold dgV; exact propext ⟨(fun ⟨_, v, s', h, _⟩ => by cases h), (fun ⟨_, h⟩ => h.elim)⟩
  | ok v s' =>
    unfold dgV
    refine propext ⟨fun ⟨h1, v, s', h, h2⟩ => ?_, fun ⟨h1, h2⟩ => ⟨h1, v, s', rfl, h2⟩⟩
    cases h; exact ⟨h1, h2⟩
theorem dg_move (x : Operand) : dg E ks ops base tl k Q (⟨dst, .move x, ty, pos, af, none⟩ :: l) (m :: ms) j a s gs rs eff = dg E ks ops base tl k Q l ms (j + 1) (putA ks a dst (opnd a x)) s gs rs eff := dg_r ops l dst ty pos af (op := .move x) (f := fun _ a _ => some (opnd a x)) rfl
theorem dg_assign (x : Operand) : dg E ks ops base tl k Q (⟨dst, .assign x, ty, pos, af, none⟩ :: l) (m :: ms) j a s gs rs eff = dg E ks ops base tl k Q l ms (j + 1) (putA ks a dst (opnd a x)) s gs rs eff := dg_r ops l dst ty pos af (op := .assign x) (f := fun _ a _ => some (opnd a x)) rfl
theorem dg_fieldAddr (t : TypeId) (x : Operand) (f : Nat) : dg E ks ops base tl k Q (⟨dst, .fieldAddr t x f, ty, pos, af, none⟩ :: l) (m :: ms) j a s gs rs eff = dgO E ks (rFieldAddr E a t x f) ops base tl l ms j dst k a s gs rs eff Q := dg_r ops l dst ty pos af (op := .fieldAddr t x f) (f := fun E a _ => rFieldAddr E a t x f) rfl
theorem dg_indexAddr (t : TypeId) (x i : Operand) : dg E ks ops base tl k Q (⟨dst, .indexAddr t x i, ty, pos, af, none⟩ :: l) (m :: ms) j a s gs rs eff = dgO E ks (rIndexAddr E a t x i) ops base tl l ms j dst k a s gs rs eff Q := dg_r ops l dst ty pos af (op := .indexAddr t x i) (f := fun E a _ => rIndexAddr E a t x i) rfl
theorem dg_binOp (o : BinOp) (t : TypeId) (x y : Operand) (t' : TypeId) : dg E ks ops base tl k Q (⟨dst, .binOp o t x y t', ty, pos, af, none⟩ :: l) (m :: ms) j a s gs rs eff = dgO E ks (rBin E a o t x y) ops base tl l ms j dst k a s gs rs eff Q := dg_r ops l dst ty pos af (op := .binOp o t x y t') (f := fun E a _ => rBin E a o t x y) rfl
theorem dg_pick (c x y : Operand) : dg E ks ops base tl k Q (⟨dst, .pick c x y, ty, pos, af, none⟩ :: l) (m :: ms) j a s gs rs eff = dgO E ks (rPick a c x y) ops base tl l ms j dst k a s gs rs eff Q := dg_r ops l dst ty pos af (op := .pick c x y) (f := fun _ a _ => rPick a c x y) rfl
theorem dg_extract (x : Operand) (i : Nat) : dg E ks ops base tl k Q (⟨dst, .extract x i, ty, pos, af, none⟩ :: l) (m :: ms) j a s gs rs eff = dgO E ks (rExtract a x i) ops base tl l ms j dst k a s gs rs eff Q := dg_r ops l dst ty pos af (op := .extract x i) (f := fun _ a _ => rExtract a x i) rfl
theorem dg_unOp (o : UnOp) (t : TypeId) (x : Operand) : dg E ks ops base tl k Q (⟨dst, .unOp o t x, ty, pos, af, none⟩ :: l) (m :: ms) j a s gs rs eff = dgO E ks (rUn a o x) ops base tl l ms j dst k a s gs rs eff Q := dg_r ops l dst ty pos af (op := .unOp o t x) (f := fun _ a _ => rUn a o x) rfl
theorem dg_load (t : TypeId) (x : Operand) : dg E ks ops base tl k Q (⟨dst, .load t x, ty, pos, af, none⟩ :: l) (m :: ms) j a s gs rs eff = dgS E ks (fun E a look => rLoad E look a t x) (rLoad E s.h.get a t x) ops base tl l m ms j dst k a s gs rs eff Q := dg_rd ops l dst ty pos af (op := .load t x) (f := fun E a look => rLoad E look a t x) rfl
theorem dg_len (x : Operand) (ts : Array TypeId) : dg E ks ops base tl k Q (⟨dst, .call ⟨.builtin .len, #[x], ts⟩, ty, pos, af, none⟩ :: l) (m :: ms) j a s gs rs eff = dgS E ks (fun E a look => rLen E look a ts x) (rLen E s.h.get a ts x) ops base tl l m ms j dst k a s gs rs eff Q := dg_rd ops l dst ty pos af (op := .call ⟨.builtin .len, #[x], ts⟩) (f := fun E a look => rLen E look a ts x) rfl
theorem dg_slice (t : TypeId) (x : Operand) (lo hi mx : Option Operand) : dg E ks ops base tl k Q (⟨dst, .slice t x lo hi mx, ty, pos, af, none⟩ :: l) (m :: ms) j a s gs rs eff = dgS E ks (fun E a look => rSlice E look a t x lo hi mx) (rSlice E s.h.get a t x lo hi mx) ops base tl l m ms j dst k a s gs rs eff Q := dg_rd ops l dst ty pos af (op := .slice t x lo hi mx) (f := fun E a look => rSlice E look a t x lo hi mx) rfl
theorem dg_buildSlice (t : TypeId) (n : Nat) (ps : Array (Nat × Operand)) : dg E ks ops base tl k Q (⟨dst, .buildSlice t n ps, ty, pos, af, none⟩ :: l) (m :: ms) j a s gs rs eff = dgN E ks (nBuildSlice E a t n ps.toList (base + j)) ops base tl l ms j dst k a s gs rs eff Q := dg_n ops l dst ty pos af (op := .buildSlice t n ps) (f := fun E a id => nBuildSlice E a t n ps.toList id) rfl
theorem dg_alloc (t : TypeId) : dg E ks ops base tl k Q (⟨dst, .alloc t, ty, pos, af, none⟩ :: l) (m :: ms) j a s gs rs eff = dgN E ks (nAlloc E t (base + j)) ops base tl l ms j dst k a s gs rs eff Q := dg_n ops l dst ty pos af (op := .alloc t) (f := fun E _ id => nAlloc E t id) rfl
theorem dg_store (t : TypeId) (x v : Operand) : dg E ks ops base tl k Q (⟨dst, .store t x v, ty, pos, af, none⟩ :: l) (m :: ms) j a s gs rs eff = (Nat.beq (Nat.land eff m) eff = true ∧ dgV E ks (aStore E a t x v s) ops base tl l m ms j dst k a s gs rs eff Q) := dg_a ops l dst ty pos af (f := fun E _ a s => aStore E a t x v s) rfl fun _ => rfl
theorem dg_append (x y : Operand) (ts : Array TypeId) : dg E ks ops base tl k Q (⟨dst, .call ⟨.builtin .append, #[x, y], ts⟩, ty, pos, af, none⟩ :: l) (m :: ms) j a s gs rs eff = (Nat.beq (Nat.land eff m) eff = true ∧ dgV E ks (aAppend E a ts x y s) ops base tl l m ms j dst k a s gs rs eff Q) := dg_a ops l dst ty pos af (f := fun E _ a s => aAppend E a ts x y s) rfl fun _ => rfl
theorem dg_call {f : Operand} {args : Array Operand} {ts : Array TypeId} {g : Nat} {cap : List (Nat × Nat)} {ws : List W} {v : V} {s' : St} (hf : opC a f = some (.fn g cap)) (hw : argsOf a args.toList = some ws) (hc : CallR E g (ws ++ capW cap) s v s')
    (hm : Nat.beq (Nat.land eff m) eff = true) (hfo : fores E s' m rs = true) (h : dg E ks ops base tl k Q l ms (j + 1) (putA ks a dst v) s' ((j, s) :: gs) rs (Nat.lor eff (Nat.shiftLeft 1 j))) : dg E ks ops base tl k Q (⟨dst, .call ⟨.value f, args, ts⟩, ty, pos, af, none⟩ :: l) (m :: ms) j a s gs rs eff := by
  have hw2 : wantedG a ops none = some true := rfl
  have hk : opK (.call ⟨.value f, args, ts⟩) = .a fun _ call a s => aFun call a f args.toList s := rfl
  have hkk : kOf E (.a fun _ call a s => aFun call a f args.toList s) = .a fun _ call a s => aFun call a f args.toList s := rfl
  simp only [dg, hw2, hk, hkk]
  refine ⟨hm, v, s', ?_, hfo, h⟩
  obtain ⟨N, hN⟩ := hc
  refine ⟨N, fun lf n h1 h2 => ?_⟩
  show aFun (runF E lf n) a f args.toList s = _
  unfold aFun
  rw [hf, hw]
  exact hN lf n h1 h2
theorem dt_nil : dt E ks [] a s k Q = go E ks k a.flush s Q := by
  unfold dt
  simp only [tailOps, AS.ok.injEq]
  exact propext ⟨fun ⟨a', s', ⟨h1, h2⟩, h⟩ => by subst h1 h2; exact h, fun h => ⟨a, s, And.intro rfl rfl, h⟩⟩
theorem dt_assign (x : Operand) : dt E ks (⟨dst, .assign x, ty, pos, af, none⟩ :: tl) a s k Q = dt E ks tl (putA ks a dst (opnd a x)) s k Q := rfl
theorem dt_store {t : TypeId} {x v : Operand} {b o : Nat} {r : Row} {w : W} {s' : St} (hp : opP a x = some (b, o)) (hr : rowOf s.h.get b = some r) (hsh : Nat.ble r.sh o = true) (hv : opW a v = some w) (hs : store E t s b o w = some s') (h : go E ks k (putA ks a dst .un).flush s' Q) :
    dt E ks [⟨dst, .store t x v, ty, pos, af, none⟩] a s k Q := by
  refine ⟨putA ks a dst .un, s', ?_, h⟩
  have : tailStore E a t x v s [] = some (s', [b]) := by
    unfold tailStore
    rw [hp]
    simp only [natIn, hr, hsh, hv, hs]
  simp only [tailOps, tailOp, isPure, this]
theorem dt_fieldAddr (t : TypeId) (x : Operand) (f : Nat) {v : V} (h : rFieldAddr E a t x f = some v) : dt E ks (⟨dst, .fieldAddr t x f, ty, pos, af, none⟩ :: tl) a s k Q = dt E ks tl (putA ks a dst v) s k Q := by
  unfold dt
  simp only [tailOps, tailOp, isPure, opK, h]
theorem backs_nil (f : Env → A → Look → Option V) (v : V) : backs E f a v m [] = true := rfl
theorem backs_cons (f : Env → A → Look → Option V) (v : V) (i : Nat) (s1 : St) : (backs E f a v m ((i, s1) :: gs) = true) = ((tbit m i = true ∨ again E f a s1 v = true) ∧ backs E f a v m gs = true) := by
  simp only [backs]
  cases tbit m i <;> cases again E f a s1 v <;> simp
theorem fores_nil : fores E s m [] = true := rfl
theorem fores_cons (i : Nat) (f : Env → A → Look → Option V) (a1 : A) (v : V) : (fores E s m (⟨i, f, a1, v⟩ :: rs) = true) = ((tbit m i = true ∨ again E f a1 s v = true) ∧ fores E s m rs = true) := by
  simp only [fores]
  cases tbit m i <;> cases again E f a1 s v <;> simp
theorem again_of {f : Env → A → Look → Option V} {v : V} (h : f E a s.h.get = some v) (hv : sameV v) : again E f a s v = true := by
  unfold again; rw [h]; exact hv
end
end Ev

set_option linter.unusedVariables false
set_option linter.unusedSimpArgs false
namespace Ev
open Go
mutual
inductive ShapeW (P : Program) (B : Nat) : TypeId → List D → Prop
  | bool (t : TypeId) (b : Bool) : P.underlying t = some .bool → ShapeW P B t [.bool b]
  | int (t : TypeId) (k : IntKind) (n : Int) : P.underlying t = some (.int k) → k.min ≤ n → n ≤ k.max → ShapeW P B t [.int k n]
  | str (t : TypeId) (l : List UInt8) : P.underlying t = some .string → l.length ≤ B → l.length ≤ maxLen → ShapeW P B t [.str (Str.ofL l)]
  | nils (t e : TypeId) : P.underlying t = some (.slice e) → ShapeW P B t [.nils]
  | sl (t e : TypeId) (l : List (List D)) : P.underlying t = some (.slice e) → l.length ≤ maxLen → (∀ x ∈ l, ShapeW P B e x) → l.length * P.bytesOf e ≤ B → ShapeW P B t [.sl (P.cellsOf e) l]
  | struct (t : TypeId) (fs : Array Field) (l : List D) : P.underlying t = some (.struct fs) → ShapeWF P B fs.toList l → ShapeW P B t l
inductive ShapeWF (P : Program) (B : Nat) : List Field → List D → Prop
  | nil : ShapeWF P B [] []
  | cons (f : Field) (fs : List Field) (x l : List D) : ShapeW P B f.type x → ShapeWF P B fs l → ShapeWF P B (f :: fs) (x ++ l)
end

theorem weightsAll_mem {H : Type} {P : Program} {e : TypeId} {d : DataW H} {y : Nat} : ∀ l : List (DataW H), d ∈ l → y ∈ d.weights P e → y ∈ DataW.weightsAll P e l
  | [], h, _ => by cases h
  | x :: l, h, hy => by
    unfold DataW.weightsAll
    rcases List.mem_cons.1 h with rfl | h
    · exact List.mem_append_left _ hy
    · exact List.mem_append_right _ (weightsAll_mem l h hy)
theorem weightsEach_mem {H : Type} {P : Program} {t : TypeId} {d : DataW H} {y : Nat} : ∀ (ts : List TypeId) (l : List (DataW H)) (k : Nat), ts[k]? = some t → l[k]? = some d → y ∈ d.weights P t → y ∈ DataW.weightsEach P ts l
  | [], _, k, h, _, _ => by simp at h
  | _ :: _, [], k, _, h, _ => by simp at h
  | a :: ts, b :: l, 0, h1, h2, hy => by
    unfold DataW.weightsEach
    simp at h1 h2
    subst h1 h2
    exact List.mem_append_left _ hy
  | a :: ts, b :: l, k + 1, h1, h2, hy => by
    unfold DataW.weightsEach
    exact List.mem_append_right _ (weightsEach_mem ts l k (by simpa using h1) (by simpa using h2) hy)
theorem weights_elem {H : Type} {P : Program} {t e : TypeId} (hu : P.underlying t = some (.slice e)) {elems rest : List (DataW H × List MemPlace)} {x : DataW H × List MemPlace} (hx : x ∈ elems) {y : Nat} (hy : y ∈ x.1.weights P e) :
    y ∈ (DataW.slice (elems.map (fun x => x.fst)) (rest.map (fun x => x.fst))).weights P t := by
  unfold DataW.weights
  rw [hu]
  exact List.mem_cons_of_mem _ (List.mem_append_left _ (weightsAll_mem _ (List.mem_map.2 ⟨x, hx, rfl⟩) hy))
theorem weights_field {H : Type} {P : Program} {t : TypeId} {fs : Array Field} (hu : P.underlying t = some (.struct fs)) {xs : List (DataW H × List MemPlace)} {k : Nat} {f : Field} (hf : fs[k]? = some f) (hk : k < xs.length) {y : Nat} (hy : y ∈ xs[k].1.weights P f.type) :
    y ∈ (DataW.agg (xs.map (fun x => x.fst))).weights P t := by
  unfold DataW.weights
  rw [hu]
  refine weightsEach_mem (d := xs[k].1) (t := f.type) _ _ k ?_ ?_ hy
  · rw [List.getElem?_map, Array.getElem?_toList, hf]; rfl
  · rw [List.getElem?_map, List.getElem?_eq_getElem hk]; rfl
section
variable {P : Program} {w : World} {base : Nat} {spare : Nat → Bool} {held : Bool} {H : Type} {enc : TypeId × Value → H}
theorem opensW (B : Nat) : ∀ (n : Nat) (t : TypeId), openable P n t = true → ∀ (fuel : Nat) (cs : List Value) (x : DataW H × List MemPlace), DataW.trod enc P w base spare held fuel t cs = some x → (∀ y ∈ x.1.weights P t, y ≤ B) →
    ∃ ds, All2 (DRel (snapAll w.heap)) ds cs ∧ ShapeW P B t ds ∧ ds.length = cs.length := by
  intro n
  induction n with
  | zero => intro t h; cases h
  | succ n ih =>
    intro t ho fuel cs x hx hwt
    unfold openable at ho
    cases hu : P.underlying t with
    | none => rw [hu] at ho; cases ho
    | some d =>
      rw [hu] at ho
      cases d <;> simp only [] at ho <;> try (cases ho; done)
      case bool =>
        obtain ⟨b, rfl, _⟩ := DataW.trod_bool hu hx
        exact ⟨[.bool b], .cons (.bool b) .nil, .bool t b hu, rfl⟩
      case int k =>
        obtain ⟨m, rfl, _, hw⟩ := DataW.trod_int hu hx
        obtain ⟨h1, h2⟩ := wf_int hw
        exact ⟨[.int k m], .cons (.int k m) .nil, .int t k m hu h1 h2, rfl⟩
      case string =>
        obtain ⟨s, rfl, rfl, hs⟩ := DataW.trod_string hu hx
        refine ⟨[.str (Str.of s)], .cons (.str s) .nil, ?_, rfl⟩
        rw [Str.of_eq]
        exact .str t _ hu (hwt _ (by simp [DataW.weights])) (by simpa using hs)
      case slice e =>
        rw [Bool.and_eq_true, decide_eq_true_eq] at ho
        rcases DataW.trod_slice hu hx with ⟨rfl, _⟩ | ⟨a, len, cap, elems, rest, m, _, rfl, rfl, hb, hl, hm, hlen, hel, _, _⟩
        · exact ⟨[.nils], .cons .nils .nil, .nils t e hu, rfl⟩
        · have each : ∀ i, i < len → ∃ ds, ∃ cs, w.cells? base (a.add (i * P.cellsOf e)) (P.cellsOf e) = some cs ∧ All2 (DRel (snapAll w.heap)) ds cs ∧ ShapeW P B e ds ∧ ds.length = cs.length := by
            intro i hi
            have h1 := hel i hi
            rw [List.getElem?_eq_getElem (by omega), Option.bind_eq_some_iff] at h1
            obtain ⟨c, h1, h2⟩ := h1
            obtain ⟨ds, g1, g2, g3⟩ := ih e ho.1 _ _ _ h2 fun y hy => hwt y (weights_elem hu (List.getElem_mem _) hy)
            exact ⟨ds, c, h1, g1, g2, g3⟩
          have hf : ∀ i, ∃ ds : List D, i < len → ∃ cs, w.cells? base (a.add (i * P.cellsOf e)) (P.cellsOf e) = some cs ∧ All2 (DRel (snapAll w.heap)) ds cs ∧ ShapeW P B e ds ∧ ds.length = cs.length := by
            intro i
            by_cases hi : i < len
            · obtain ⟨ds, h⟩ := each i hi
              exact ⟨ds, fun _ => h⟩
            · exact ⟨[], fun h => absurd h hi⟩
          let f := fun i => (hf i).choose
          have hfs : ∀ i, i < len → ∃ cs, w.cells? base (a.add (i * P.cellsOf e)) (P.cellsOf e) = some cs ∧ All2 (DRel (snapAll w.heap)) (f i) cs ∧ ShapeW P B e (f i) ∧ (f i).length = cs.length := fun i => (hf i).choose_spec
          have hll : ((List.range len).map f).length = len := by simp
          have hget : ∀ (i : Nat) e', ((List.range len).map f)[i]? = some e' → i < len ∧ e' = f i := by
            intro i e' hi
            have hi' : i < len := by
              have := (List.getElem?_eq_some_iff.1 hi).1
              simpa using this
            rw [List.getElem?_map, List.getElem?_range hi'] at hi
            exact ⟨hi', (Option.some.inj hi).symm⟩
          have key : ∀ (i j : Nat) (d : D), i < len → (f i)[j]? = some d → ∃ v, w.cell? (a.add (i * P.cellsOf e + j)) = some v ∧ DRel (snapAll w.heap) d v ∧ j < P.cellsOf e := by
            intro i j d hi hd
            obtain ⟨cs, h1, h2, h3, h4⟩ := hfs i hi
            obtain ⟨_, k2, k3⟩ := World.cells?_some h1
            obtain ⟨v, g1, g2⟩ := h2.get hd
            have hj : j < P.cellsOf e := by have := (List.getElem?_eq_some_iff.1 g1).1; omega
            refine ⟨v, ?_, g2, hj⟩
            have := k3 j hj
            rw [g1] at this
            rw [← this]
            rw [add_add_]
          have hbw : len * P.bytesOf e ≤ B := by
            have h1 := hwt ((elems.length + rest.length) * P.bytesOf e) (by unfold DataW.weights; rw [hu]; simp)
            have h2 : len * P.bytesOf e ≤ (elems.length + rest.length) * P.bytesOf e := Nat.mul_le_mul_right _ (by omega)
            omega
          refine ⟨[.sl (P.cellsOf e) ((List.range len).map f)], .cons ?_ .nil, .sl t e _ hu (by rw [hll]; omega) ?_ (by rw [hll]; exact hbw), rfl⟩
          · have := DRel.sl (m := snapAll w.heap) (P.cellsOf e) ((List.range len).map f) a a.block a.off cap (fun i j => (w.cell? (a.add (i * P.cellsOf e + j))).getD (.bool false))
              (fun h0 => by
                rw [hll] at h0
                obtain ⟨cs, h1, h2, h3, h4⟩ := hfs 0 h0
                obtain ⟨_, k2, k3⟩ := World.cells?_some h1
                have hc : 0 < cs.length := by omega
                have := k3 0 (by omega)
                rw [List.getElem?_eq_getElem hc] at this
                have := (snapAll_cell this).1
                rw [Nat.zero_mul] at this
                have e0 : (a.add 0).add 0 = a := by unfold Addr.add; simp
                rw [e0] at this
                cases a
                simp at this
                subst this; rfl)
              (by rw [hll]; exact hl) ho.2
              (fun i e' hi => by
                obtain ⟨hi', rfl⟩ := hget i e' hi
                obtain ⟨cs, h1, h2, h3, h4⟩ := hfs i hi'
                obtain ⟨_, k2, k3⟩ := World.cells?_some h1
                omega)
              (fun i e' j d hi hj => by
                obtain ⟨hi', rfl⟩ := hget i e' hi
                obtain ⟨v, h1, h2, _⟩ := key i j d hi' hj
                have h3 := (snapAll_cell h1).2
                show _ = some ((w.cell? (a.add (i * P.cellsOf e + j))).getD (.bool false))
                rw [h1, Option.getD_some, ← h3]
                unfold Addr.add
                generalize i * P.cellsOf e + j = q
                by_cases c : q = 0
                · simp [c]
                · simp [c])
              (fun i e' j d hi hj => by
                obtain ⟨hi', rfl⟩ := hget i e' hi
                obtain ⟨v, h1, h2, _⟩ := key i j d hi' hj
                show DRel _ d ((w.cell? (a.add (i * P.cellsOf e + j))).getD (.bool false))
                rw [h1]; exact h2)
            rw [hll] at this
            exact this
          · intro y hy
            obtain ⟨i, hi, rfl⟩ := List.mem_map.1 hy
            rw [List.mem_range] at hi
            obtain ⟨cs, h1, h2, h3, h4⟩ := hfs i hi
            exact h3
      case struct fs =>
        rw [Bool.and_eq_true] at ho
        obtain ⟨xs, m, _, rfl, hl, hlen, hf⟩ := DataW.trod_struct hu hx
        have go : ∀ (l : List Field) (k o : Nat), (∀ i f, l[i]? = some f → fs[k + i]? = some f) → l.all (fun f => openable P n f.type) = true → coversF P l o (P.cellsOf t) = true → k + l.length = fs.size →
            ∃ ds, All2 (DRel (snapAll w.heap)) ds (cs.drop o) ∧ ShapeWF P B l ds := by
          intro l
          induction l with
          | nil =>
            intro k o _ _ hc _
            unfold coversF at hc
            have : o = P.cellsOf t := by simpa using hc
            refine ⟨[], ?_, .nil⟩
            rw [List.drop_of_length_le (by omega)]
            exact .nil
          | cons f l ihl =>
            intro k o hi ha hc hs
            rw [List.all_cons, Bool.and_eq_true] at ha
            unfold coversF at hc
            rw [Bool.and_eq_true] at hc
            have hoff : f.offset = o := by simpa using hc.1
            have h1 := hf k f (by have := hi 0 f rfl; simpa using this)
            have hk : k < xs.length := by rw [hlen]; simp at hs; omega
            rw [List.getElem?_eq_getElem hk] at h1
            obtain ⟨d, g1, g2, g3⟩ := ih f.type ha.1 _ _ _ h1 fun y hy => hwt y (weights_field hu (by have := hi 0 f rfl; simpa using this) hk hy)
            obtain ⟨ds, q1, q2⟩ := ihl (k + 1) (o + P.cellsOf f.type) (fun i f' h => by have := hi (i + 1) f' (by simpa using h); rw [show k + 1 + i = k + (i + 1) by omega]; exact this) ha.2 hc.2 (by simp at hs; omega)
            refine ⟨d ++ ds, ?_, .cons f l d ds g2 q2⟩
            rw [hoff] at g1
            have : cs.drop o = (cs.drop o).take (P.cellsOf f.type) ++ cs.drop (o + P.cellsOf f.type) := by
              rw [← List.drop_drop, List.take_append_drop]
            rw [this]
            exact All2.append g1 q1
        obtain ⟨ds, q1, q2⟩ := go fs.toList 0 0 (fun i f h => by rw [Nat.zero_add]; simpa using h) ho.1 ho.2 (by simp)
        rw [List.drop_zero] at q1
        exact ⟨ds, q1, .struct t fs ds hu q2, q1.length⟩
end
end Ev

set_option linter.unusedVariables false
set_option linter.unusedSimpArgs false
namespace Ev
open Go
def RowAt (s : St) (b : Nat) (l : List C) : Prop := ∃ q sh anc, s.h.get b = some (.row ⟨q, l.length, true, sh, anc⟩) ∧ ∀ m, m < l.length → q.get m = l[m]?
theorem RowAt.of {s : St} {b : Nat} {l : List C} (h : LRow s b l) : RowAt s b l := by
  obtain ⟨q, h1, h2⟩ := h.at_
  exact ⟨q, 0, [], h1, h2⟩
theorem RowAt.keep {s s' : St} {b : Nat} {l : List C} (h : RowAt s b l) (hk : s'.h.get b = s.h.get b) : RowAt s' b l := by
  obtain ⟨q, sh, anc, h1, h2⟩ := h
  exact ⟨q, sh, anc, by rw [hk]; exact h1, h2⟩
theorem getL_all {q : T C} {l : List C} (h : ∀ m, m < l.length → q.get m = l[m]?) : q.getL l.length 0 = some l := by
  refine T.getL_of rfl fun j hj => ?_
  rw [Nat.zero_add, h j hj]
def SlG (s : St) (c : C) (z : Nat) (els : List (List D)) : Prop :=
  (∀ x ∈ els, x.length = z) ∧ ∃ b cap, c = .sl b 0 els.length cap z ∧ b < s.nx ∧ ((els = [] ∧ cap = some 0) ∨ (1 ≤ els.length ∧ cap = none)) ∧ RowAt s b (cellsD els.flatten)
theorem SlG.keep {s s' : St} {c : C} {z : Nat} {ls : List (List D)} (h : SlG s c z ls) (hn : s.nx ≤ s'.nx) (hk : ∀ b o n cap z', c = .sl b o n cap z' → s'.h.get b = s.h.get b) : SlG s' c z ls := by
  obtain ⟨h1, b, cap, rfl, h2, h3, h4⟩ := h
  exact ⟨h1, b, cap, rfl, by omega, h3, h4.keep (hk _ _ _ _ _ rfl)⟩
theorem SlG.built (s : St) (b z : Nat) (hb : b < s.nx) (h : s.h.get b = some (.row (mkRow []))) : SlG s (.sl b 0 0 (some 0) z) z [] :=
  ⟨(fun x hx => by cases hx), b, some 0, rfl, hb, .inl ⟨rfl, rfl⟩, by
    rw [mkRow_eq] at h
    exact ⟨_, _, _, h, fun m hm => by simp [cellsD] at hm⟩⟩
theorem app_G {E : Env} {t z : Nat} {j : TI} {s : St} {c y : C} {els l : List (List D)} (hj : elemTI E t = some j) (hs : j.size = z) (h : SlG s c z els) (hl : ∀ x ∈ l, x.length = z) (hz : 1 ≤ z)
    (hn : newCells s.h.get z y = some (l.length, cellsD l.flatten)) (hb : (els.length + l.length) * j.bytes ≤ maxBytes) : ∃ c' s', append E t c y s = .ok c' s' ∧ SlG s' c' z (els ++ l) ∧ s.nx ≤ s'.nx ∧
      (∀ x, x < s.nx → (∀ b o n cap z, c = .sl b o n cap z → x ≠ b) → s'.h.get x = s.h.get x) ∧
      (els = [] → 1 ≤ l.length → c' = .sl s.nx 0 l.length none z ∧ s' = s.new (.row (mkRow (cellsD l.flatten)))) ∧ (c' = c ∨ ∃ n cap, c' = .sl s.nx 0 n cap z) := by
  subst hs
  obtain ⟨hels, b, cap, rfl, hbn, hcap, q, sh, anc, hrow, hq⟩ := h
  have hce := cells_len j.size els hels
  have hcl := cells_len j.size l hl
  have hgl := getL_all hq
  unfold append
  rw [hj]
  simp only [hn]
  cases hlen : l.length with
  | zero =>
    have : l = [] := by simpa using hlen
    subst this
    exact ⟨_, s, rfl, ⟨by simpa using hels, b, cap, by simp, hbn, by simpa using hcap, q, sh, anc, by simpa using hrow, by simpa using hq⟩, Nat.le_refl _, (fun x _ _ => rfl), (fun _ h => by omega), .inl rfl⟩
  | succ m =>
    have hall : ∀ x ∈ els ++ l, x.length = j.size := fun x hx => (List.mem_append.1 hx).elim (hels x) (hl x)
    have hfl : cellsD (els ++ l).flatten = cellsD els.flatten ++ cellsD l.flatten := by simp [cellsD_append]
    have hsize : (and (Nat.beq j.size j.size) (Nat.ble (Nat.mul (Nat.add els.length (m + 1)) j.bytes) maxBytes)) = true := by
      rw [show Nat.beq j.size j.size = true from Nat.beq_refl _, nble_true (by rw [← hlen]; exact hb)]; rfl
    rcases hcap with ⟨rfl, rfl⟩ | ⟨h1, rfl⟩
    · refine ⟨.sl s.nx 0 l.length none j.size, s.new (.row (mkRow (cellsD l.flatten))), ?_, ⟨hall, s.nx, none, by simp, by rw [St.new_nx]; omega, .inr ⟨by simp [hlen], rfl⟩, ?_⟩, by rw [St.new_nx]; omega, fun x hx _ => ?_, (fun _ _ => ⟨by rw [hlen], rfl⟩), .inr ⟨_, _, rfl⟩⟩
      · show appNz j (m + 1) (cellsD l.flatten) (.sl b 0 0 (some 0) j.size) s = _
        unfold appNz appSl
        simp only []
        rw [show (and (Nat.beq j.size j.size) (Nat.ble (Nat.mul (Nat.add 0 (m + 1)) j.bytes) maxBytes)) = true from hsize]
        simp only []
        rw [show Nat.ble (Nat.add 0 (m + 1)) 0 = false from nble_false (by show ¬ (0 + (m + 1) ≤ 0); omega)]
        simp only []
        unfold appGrow
        have hr : readL s.h.get b 0 (Nat.mul 0 j.size) = some [] := by
          rw [show Nat.mul 0 j.size = 0 from Nat.zero_mul _, readL_row hrow, readR_if, if_pos (by omega)]
          exact T.getL_of rfl fun j hj => by omega
        rw [hr, hlen]
        simp only [List.nil_append]
        rw [show Nat.add 0 (m + 1) = m + 1 from Nat.zero_add _]
      · have := RowAt.of (LRow.new s (cellsD l.flatten))
        simpa using this
      · rw [St.new_h]
        show (if x = s.nx then _ else _) = _
        rw [if_neg (by omega)]
    · have hro : rowOf s.h.get b = some ⟨q, (cellsD els.flatten).length, true, sh, anc⟩ := rowOf_row hrow
      have happ : appNz j (m + 1) (cellsD l.flatten) (.sl b 0 els.length none j.size) s = .ok (.sl s.nx 0 (els.length + l.length) none j.size)
          (St.new ⟨s.h.set b (.row ⟨q, (cellsD els.flatten).length, false, sh, anc⟩), s.nx⟩ (.row { mkRow (cellsD els.flatten ++ cellsD l.flatten) with sh := els.length * j.size, anc := b :: anc })) := by
        unfold appNz appSl
        simp only []
        rw [hsize]
        simp only []
        unfold appOpen
        rw [hro]
        simp only []
        unfold appOpenR
        simp only []
        have hlt : ¬ (Nat.add 0 (Nat.mul (Nat.add els.length (m + 1)) j.size) ≤ (cellsD els.flatten).length) := by
          rw [hce]
          show ¬ (0 + (els.length + (m + 1)) * j.size ≤ _)
          rw [Nat.add_mul, Nat.add_mul]
          have : 1 * j.size ≤ j.size := by omega
          omega
        rw [show Nat.ble (Nat.add 0 (Nat.mul (Nat.add els.length (m + 1)) j.size)) (cellsD els.flatten).length = false from nble_false hlt]
        simp only []
        rw [show (and true (Nat.beq (Nat.add 0 (Nat.mul els.length j.size)) (cellsD els.flatten).length)) = true from by
          rw [hce]
          show (true && Nat.beq (0 + els.length * j.size) (els.length * j.size)) = true
          rw [Nat.zero_add, Bool.true_and]; exact Nat.beq_refl _]
        simp only []
        have : q.getL (Nat.mul els.length j.size) 0 = some (cellsD els.flatten) := by
          show q.getL (els.length * j.size) 0 = _
          rw [← hce]; exact hgl
        rw [this, hlen]
        rfl
      refine ⟨_, _, happ, ⟨hall, s.nx, none, by rw [List.length_append], by rw [St.new_nx]; exact Nat.lt_succ_self _, .inr ⟨by rw [List.length_append]; omega, rfl⟩, ?_⟩, by rw [St.new_nx]; exact Nat.le_succ _, fun x hx hne => ?_, (fun h0 => by rw [h0] at h1; simp at h1), .inr ⟨_, _, rfl⟩⟩
      · refine ⟨T.ofL (cellsD els.flatten ++ cellsD l.flatten), els.length * j.size, b :: anc, ?_, fun m _ => by rw [T.get_ofL, hfl]⟩
        rw [St.new_h]
        show (if s.nx = s.nx then _ else _) = _
        rw [if_pos rfl, mkRow_eq, hfl]
      · rw [St.new_h]
        show (if x = s.nx then _ else (s.h.set b _).get x) = _
        rw [if_neg (by omega), T.get_set, if_neg (hne b _ _ _ _ rfl)]
theorem SlG.frz {s : St} {c : C} {z : Nat} {ls : List (List D)} (h : SlG s c z ls) (hp : ls.flatten.all D.plain = true) (hz : 1 ≤ z) (n : Nat) : ∃ b cap, c = .sl b 0 ls.length cap z ∧ b < s.nx ∧ frzC s.h.get (n + 1) c = some (.sl z ls, [b]) := by
  obtain ⟨hl, b, cap, rfl, hb, hcap, q, sh, anc, hrow, hq⟩ := h
  refine ⟨b, cap, rfl, hb, ?_⟩
  have hfr : frzRow s.h.get b = some ⟨q, (cellsD ls.flatten).length, true, sh, anc⟩ := by unfold frzRow; rw [hrow]
  have hlen := cells_len z ls hl
  simp only [frzC, hfr]
  have hc : (and (capOk cap ls.length) (Nat.ble 1 z)) = true := by
    rw [show capOk cap ls.length = true by cases cap <;> rfl, nble_true hz]; rfl
  rw [hc]
  simp only []
  have hr : readR ⟨q, (cellsD ls.flatten).length, true, sh, anc⟩ 0 (Nat.mul ls.length z) = some (cellsD ls.flatten) := by
    rw [readR_eq _ _ _ _ _ _ _ (by rw [hlen]; simp)]
    show q.getL (ls.length * z) 0 = _
    rw [← hlen]
    exact getL_all hq
  rw [hr]
  simp only []
  rw [mapO_plain s.h.get n ls.flatten hp]
  simp only [frzSl, flatten_chunk z ls hl]
theorem frz_one {s : St} {b z n : Nat} {l : List C} {ds : List D} {bs : List Nat} (h : RowAt s b l) (hl : l.length = z) (hz : 1 ≤ z) (hds : ds.length = z) (hm : mapO (frzC s.h.get n) l = some (ds, bs)) : frzC s.h.get (n + 1) (.sl b 0 1 (some 1) z) = some (.sl z [ds], b :: bs) := by
  obtain ⟨q, sh, anc, hrow, hq⟩ := h
  subst hl
  have hfr : frzRow s.h.get b = some ⟨q, l.length, true, sh, anc⟩ := by unfold frzRow; rw [hrow]
  simp only [frzC, hfr]
  have hc : (and (capOk (some 1) 1) (Nat.ble 1 l.length)) = true := by
    rw [nble_true hz]; rfl
  rw [hc]
  simp only []
  have hr : readR ⟨q, l.length, true, sh, anc⟩ 0 (Nat.mul 1 l.length) = some l := by
    rw [show Nat.mul 1 l.length = l.length from Nat.one_mul _, readR_eq _ _ _ _ _ _ _ (by omega)]
    exact getL_all hq
  rw [hr]
  simp only []
  rw [hm]
  have := flatten_chunk l.length [ds] (by simp [hds])
  simp only [List.flatten_cons, List.flatten_nil, List.append_nil, List.length_singleton] at this
  simp only [frzSl, this]
end Ev

set_option linter.unusedVariables false
set_option linter.unusedSimpArgs false
namespace Ev
open Go

def PW.same : PW → PW → Bool
  | .c a, .c b => D.same a b
  | .agg l, .agg r => D.sameL l r
  | _, _ => false
def samePs : List PW → List PW → Bool
  | [], [] => true
  | x :: l, y :: r => match PW.same x y with
    | true => samePs l r
    | false => false
  | _, _ => false
def PV.same : PV → PV → Bool
  | .w a, .w b => PW.same a b
  | .tup l, .tup r => samePs l r
  | _, _ => false
theorem PW.same_eq : ∀ {x y : PW}, PW.same x y = true → x = y
  | .c a, .c b, h => by rw [D.same_eq a b h]
  | .agg l, .agg r, h => by rw [D.sameL_eq l r h]
  | .c _, .agg _, h => by cases h
  | .agg _, .c _, h => by cases h
theorem samePs_eq : ∀ {l r : List PW}, samePs l r = true → l = r
  | [], [], _ => rfl
  | x :: l, y :: r, h => by
    simp only [samePs] at h
    cases hx : PW.same x y with
    | false => rw [hx] at h; cases h
    | true => rw [hx] at h; rw [PW.same_eq hx, samePs_eq h]
  | [], _ :: _, h => by cases h
  | _ :: _, [], h => by cases h
theorem PV.same_eq : ∀ {x y : PV}, PV.same x y = true → x = y
  | .w a, .w b, h => by rw [PW.same_eq h]
  | .tup l, .tup r, h => by rw [samePs_eq h]
  | .w _, .tup _, h => by cases h
  | .tup _, .w _, h => by cases h
def memoF : List (List PW × PV) → List PW → Option PV
  | [], _ => none
  | m :: ms, ps => match samePs ps m.1 with
    | true => some m.2
    | false => memoF ms ps
theorem memoF_some : ∀ {ms : List (List PW × PV)} {ps : List PW} {pv : PV}, memoF ms ps = some pv → ∃ m ∈ ms, ps = m.1 ∧ pv = m.2
  | [], _, _, h => by cases h
  | m :: ms, ps, pv, h => by
    simp only [memoF] at h
    cases hb : samePs ps m.1 with
    | true => rw [hb] at h; cases h; exact ⟨m, by simp, samePs_eq hb, rfl⟩
    | false =>
      rw [hb] at h
      obtain ⟨m', h1, h2⟩ := memoF_some h
      exact ⟨m', List.mem_cons_of_mem _ h1, h2⟩
noncomputable def pureRun (r : VS) (pv : PV) : Bool := match r with
  | .ok v s => match frzV s.h.get v with
    | some (p, _) => PV.same p pv
    | none => false
  | .no => false
theorem pureRun_some {r : VS} {pv : PV} (h : pureRun r pv = true) : ∃ v s bs, r = .ok v s ∧ frzV s.h.get v = some (pv, bs) := by
  unfold pureRun at h
  split at h
  · rename_i v s
    split at h
    · rename_i p bs e
      exact ⟨v, s, bs, rfl, by rw [e, PV.same_eq h]⟩
    · cases h
  · cases h
section
variable {P : Program} {kps : List (Nat × Nat)} {exts : List (Nat × Ext)}
def PureRuns (P : Program) (exts : List (Nat × Ext)) (kps : List (Nat × Nat)) (gs : List (Nat × List C)) (f : Nat) (m : List PW × PV) : Prop :=
  ∃ lf n, pureRun (runF (envOf P exts kps) lf (n + 1) f (m.1.map PW.toW) (st0 gs P.globals.size)) m.2 = true
theorem ext_table (hany : P.follows .mixedOrders = true) (ht : typesOk P = true) (hk : kps.all (fun p => fnOk P p.1) = true) (hx : ∀ p ∈ exts, ExtOne P P.globals.size p.1 p.2) {f : Nat} (gs : List (Nat × List C))
    (hgs : gs.all (fun p => and (p.2.all plainC) (decide (p.1 < P.globals.size))) = true) (hf : (pairT exts .nil).get f = none) (F : List PW → Option PV)
    (hr : ∀ ps pv, F ps = some pv → PureRuns P exts kps gs f (ps, pv)) : ExtOne P P.globals.size f (.fn F gs) :=
  ext_fn hgs (pure_of_run hany ht hk hx hf gs F fun ps pv hF => by
    obtain ⟨lf, n, h⟩ := hr ps pv hF
    obtain ⟨v, s, bs, h1, h2⟩ := pureRun_some h
    exact ⟨lf, n, v, s, bs, h1, h2⟩)
theorem ext_memoF (hany : P.follows .mixedOrders = true) (ht : typesOk P = true) (hk : kps.all (fun p => fnOk P p.1) = true) (hx : ∀ p ∈ exts, ExtOne P P.globals.size p.1 p.2) {f : Nat} (gs : List (Nat × List C))
    (hgs : gs.all (fun p => and (p.2.all plainC) (decide (p.1 < P.globals.size))) = true) (hf : (pairT exts .nil).get f = none) (ms : List (List PW × PV))
    (hr : ∀ m ∈ ms, PureRuns P exts kps gs f m) : ExtOne P P.globals.size f (.fn (memoF ms) gs) :=
  ext_table hany ht hk hx gs hgs hf (memoF ms) fun ps pv hF => by
    obtain ⟨m, hm, rfl, rfl⟩ := memoF_some hF
    exact hr m hm
theorem runs_all {gs : List (Nat × List C)} {f : Nat} {ms : List (List PW × PV)} (lf n : Nat) (h : ms.all (fun m => pureRun (runF (envOf P exts kps) lf (n + 1) f (m.1.map PW.toW) (st0 gs P.globals.size)) m.2) = true) : ∀ m ∈ ms, PureRuns P exts kps gs f m :=
  fun m hm => ⟨lf, n, List.all_eq_true.1 h m hm⟩
theorem runs_app {gs : List (Nat × List C)} {f : Nat} {ms ns : List (List PW × PV)} (h1 : ∀ m ∈ ms, PureRuns P exts kps gs f m) (h2 : ∀ m ∈ ns, PureRuns P exts kps gs f m) : ∀ m ∈ ms ++ ns, PureRuns P exts kps gs f m :=
  fun m hm => (List.mem_append.1 hm).elim (h1 m) (h2 m)
end
end Ev

set_option linter.unusedVariables false
set_option linter.unusedSimpArgs false
namespace Ev
open Go
theorem true_of_pure_g {P : Program} {f : Nat} {F : List PW → Option PV} {gs : List (Nat × List C)} (hgs : gs.all (fun p => and (p.2.all plainC) (decide (p.1 < P.globals.size))) = true) (hp : PureOk P f gs F) {w : World} (hw : HoldsRows gs w.heap) {vals : Array Value} {ps : List PW}
    (hF : F ps = some (.w (.c (.bool true)))) (hv : All2 (PWRel (snapAll w.heap)) ps vals.toList) : Calls P f vals w (fun e w' => e = .returned (.bool true) ∧ Go.RowKit.Below w.heap.size w w') := by
  have hr : HRel ⟨(rhoG gs P.globals.size).f, snapAll w.heap⟩ (st0 gs P.globals.size).h.get P.globals.size w.heap :=
    (hrelG hgs hw).snap (fun b x hb => rows0_wr gs _ b x hb) (fun c i v h => by cases h) (snapAll_lies w.heap)
  have h := hp _ w vals ps _ hr (fun g h => gokG gs _ g h) hF hv
  refine Calls.mono h.2 ?_
  rintro e w' ⟨u, rfl, m', _, _, _, hu, hfr, hsz, hs⟩
  have hu : DRel m' (.bool true) u := hu
  cases hu
  exact ⟨rfl, hs.1, hs.2.2, hs.2.1, hsz, hfr⟩
end Ev
