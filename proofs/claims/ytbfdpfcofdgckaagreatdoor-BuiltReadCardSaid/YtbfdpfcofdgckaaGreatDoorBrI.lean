import Derived.Test.YtbfdpfcofdgckaaGreatDoorBrH
namespace Br
open Go Go.Proofs Ev
set_option linter.unusedVariables false
set_option maxRecDepth 1000000
/-- a row of texts -/
def Tx (d : D) : Prop := IsEls 1 d ∧ ∃ ls, els d = tl ls ∧ ∀ x ∈ ls, x.length ≤ 140737488351232
theorem tl_els (l : List (List UInt8)) : IsEls 1 (.sl 1 (tl l)) := .inr ⟨_, rfl, fun x hx => by
  obtain ⟨l, _, rfl⟩ := List.mem_map.1 hx; rfl⟩
theorem w22 {ds : List D} (h : ShapeW Tryz.prog reachBytes 22 ds) : ∃ d, ds = [d] ∧ Tx d := by
  rcases w_slice Tryz.underlying22 h with rfl | ⟨l, rfl, h1, h2⟩
  · exact ⟨_, rfl, .inl rfl, [], rfl, fun x hx => by cases hx⟩
  · obtain ⟨ls, rfl, hb⟩ := w_texts Tryz.underlying9 h2
    exact ⟨_, rfl, tl_els ls, ls, rfl, fun x hx => hb x hx⟩
def RLaw (ps : List PW) (v : PV) : Prop := ∃ d, ps = [.c d] ∧ Tx d ∧ v = .w (.c (.bool true))
noncomputable def e7 : Nat × Ext := (7, .const (.bool true) Bk.gs)
theorem read_pure : PureOk Tryz.prog 4 Bk.gs (ofG RLaw) :=
  law_pure (exts := [e6, e7, e8]) Bk.any_ok Bk.types_ok fns_ok (oks1 c6 (oks1 Bk.known_ok (oks1 c8 oks0))) (f := 4) rfl Bk.gs _ fun ps pv hp => by
    obtain ⟨d, rfl, ⟨hd, ls, hl, hb⟩, rfl⟩ := hp
    exact law4 _ rfl rfl rfl rfl ls hb d hd hl _ (by kernel_rfl) (rows_below Bk.gs_ok) _ fun s' => ⟨[], rfl⟩
theorem read_val {d : D} (hd : Tx d) : ofG RLaw [.c d] = some (.w (.c (.bool true))) :=
  ofG_eq ⟨d, rfl, hd, rfl⟩ (by rintro v' ⟨_, _, _, rfl⟩; rfl)
end Br
