/-
  What the evaluator asks of this program: the functions, what is kept of each, and the closed facts; the outer functions' contracts.
-/
import Derived.Test.YtabbbammkoldlaaGreatDoorEvZg
import Derived.Test.YtabbbammkoldlaaGreatDoorEvZj
import Derived.Test.YtabbbammkoldlaaGreatDoorEvZi
import Derived.Test.YtabbbammkoldlaaGreatDoorProg
import Derived.Test.YtabbbammkoldlaaGreatDoorChecked
import Derived.ProofKit
import Derived.Shelf.Strconv.Clone
namespace Be
open Go Go.Proofs Ev
def kps : List (Nat × Nat) := [(2, 1), (3, 85070591730254034531969117018413858803), (4, 2571380766355765890621236185847), (5, 75497615), (6, 45), (7, 10487), (8, 131159), (9, 275146359159), (10, 68857922295), (11, 577595450451564275), (12, 4194483), (13, 65911), (14, 4202871), (15, 147), (16, 158461160732383612598032048125), (17, 8742045943), (18, 24859446678980235670963), (19, 133), (20, 17597), (21, 135299293), (22, 656191), (23, 5), (24, 16719), (25, 2656331146898282414023), (26, 572049351), (27, 2343), (28, 2279), (29, 7), (30, 604508359), (31, 435), (32, 1030242934247411), (33, 262341), (34, 288265561061199863), (35, 5171), (36, 17047587), (37, 278707), (38, 12421), (39, 147), (40, 147), (41, 8397255), (42, 5), (43, 21), (44, 109), (45, 157), (46, 25095), (47, 1074307543), (48, 2291), (49, 133), (50, 133), (51, 70369817931719), (52, 1327), (53, 1395), (54, 288248243249348851), (55, 281612957003719), (56, 37191119322291983), (57, 1025), (58, 33825299), (59, 8531), (60, 147), (61, 539168711), (62, 1121071012895), (63, 627), (64, 10217992290702300886440887239), (65, 307), (66, 5), (67, 576460752305002483), (68, 36028797019068403), (69, 4229), (70, 133), (71, 10217992290702300886440887239), (74, 174224577096382171037739960777314905735155), (75, 187072209581261271206726987124361732537557266448327), (76, 1171), (77, 1171), (78, 43591), (79, 43591), (80, 525555), (82, 579), (83, 70369817931719), (84, 279), (85, 147), (87, 579), (88, 147), (90, 5), (91, 8796093163507), (92, 5), (93, 1218370562159455504433341), (94, 201005), (95, 37), (96, 21), (97, 10371), (98, 4613585795827699), (99, 10371), (101, 8391165), (102, 21), (103, 45), (104, 61447984286128824476406153834618308375617927833625690099), (105, 5), (106, 317), (107, 19), (108, 45), (109, 1125904336552947), (110, 147), (111, 1037), (112, 5), (113, 8301), (114, 393203), (115, 316912650057057350528795147295), (116, 5), (117, 5), (118, 5), (119, 5), (120, 165), (121, 5), (122, 5), (156, 16408)]

set_option maxRecDepth 1000000
theorem types_ok : typesOk Tryz.prog = true := by kernel_rfl
theorem fns_ok : kps.all (fun p => fnOk Tryz.prog p.1) = true := by kernel_rfl
theorem any_ok : Tryz.prog.follows .mixedOrders = true := by kernel_rfl
theorem ib_ok : ExtOne Tryz.prog Tryz.prog.globals.size 100 .indexByte :=
  ext_indexByte Tryz.func100 (by kernel_rfl) (by kernel_rfl) (by kernel_rfl) (by kernel_rfl)
/-- internal/stringslite.Clone, by the library's contract -/
def ren : Go.Shelf.Ren := ⟨fun _ => 94, fun n => bif n == 5 then 5 else bif n == 9 then 9 else bif n == 3 then 3 else bif n == 4 then 4 else bif n == 37 then 23 else bif n == 127 then 111 else 0, fun n => n⟩
theorem clone_lays : LaysM.n316 Tryz.prog ren where
  mixed := any_ok
  f316 := by kernel_rfl
  t0 := by kernel_rfl
  a0 := fun w => by kernel_rfl
  z0 := fun w => by kernel_rfl
  v0 := fun w => by kernel_rfl
  i0 := by kernel_rfl
  t3 := by kernel_rfl
  a3 := fun w => by kernel_rfl
  z3 := fun w => by kernel_rfl
  v3 := fun w => by kernel_rfl
  i3 := by kernel_rfl
  t4 := by kernel_rfl
  a4 := fun w => by kernel_rfl
  z4 := fun w => by kernel_rfl
  v4 := fun w => by kernel_rfl
  i4 := by kernel_rfl
  t5 := by kernel_rfl
  a5 := fun w => by kernel_rfl
  z5 := fun w => by kernel_rfl
  v5 := fun w => by kernel_rfl
  i5 := by kernel_rfl
  t9 := by kernel_rfl
  a9 := fun w => by kernel_rfl
  z9 := fun w => by kernel_rfl
  v9 := fun w => by kernel_rfl
  i9 := by kernel_rfl
  t37 := by kernel_rfl
  a37 := fun w => by kernel_rfl
  z37 := fun w => by kernel_rfl
  v37 := fun w => by kernel_rfl
  i37 := by kernel_rfl
  t127 := by kernel_rfl
  a127 := fun w => by kernel_rfl
  z127 := fun w => by kernel_rfl
  v127 := fun w => by kernel_rfl
  i127 := by kernel_rfl
theorem clone_ok : ExtOne Tryz.prog Tryz.prog.globals.size 94 .same :=
  ext_clone (Go.Proofs.enters_of clone_lays.f316 (by kernel_rfl) rfl) (fun s w h => Any.stringslite_Clone clone_lays s w h)
abbrev exts : List (Nat × Ext) := [(100, .indexByte), (94, .same)]
theorem exts_ok : ∀ p ∈ exts, ExtOne Tryz.prog Tryz.prog.globals.size p.1 p.2 := by
  intro p hp
  rcases List.mem_cons.1 hp with rfl | hp
  · exact ib_ok
  · rw [List.mem_singleton] at hp
    subst hp
    exact clone_ok
/-- what is known of package variables -/
abbrev gs : List (Nat × List C) := [(0, [.int .u8 0, .int .u8 0, .int .u8 0, .int .u8 0, .int .u8 0, .int .u8 0, .int .u8 0, .int .u8 0, .int .u8 0, .int .u8 1, .int .u8 1, .int .u8 1, .int .u8 1, .int .u8 1, .int .u8 0, .int .u8 0, .int .u8 0, .int .u8 0, .int .u8 0, .int .u8 0, .int .u8 0, .int .u8 0, .int .u8 0, .int .u8 0, .int .u8 0, .int .u8 0, .int .u8 0, .int .u8 0, .int .u8 0, .int .u8 0, .int .u8 0, .int .u8 0, .int .u8 1, .int .u8 0, .int .u8 0, .int .u8 0, .int .u8 0, .int .u8 0, .int .u8 0, .int .u8 0, .int .u8 0, .int .u8 0, .int .u8 0, .int .u8 0, .int .u8 0, .int .u8 0, .int .u8 0, .int .u8 0, .int .u8 0, .int .u8 0, .int .u8 0, .int .u8 0, .int .u8 0, .int .u8 0, .int .u8 0, .int .u8 0, .int .u8 0, .int .u8 0, .int .u8 0, .int .u8 0, .int .u8 0, .int .u8 0, .int .u8 0, .int .u8 0, .int .u8 0, .int .u8 0, .int .u8 0, .int .u8 0, .int .u8 0, .int .u8 0, .int .u8 0, .int .u8 0, .int .u8 0, .int .u8 0, .int .u8 0, .int .u8 0, .int .u8 0, .int .u8 0, .int .u8 0, .int .u8 0, .int .u8 0, .int .u8 0, .int .u8 0, .int .u8 0, .int .u8 0, .int .u8 0, .int .u8 0, .int .u8 0, .int .u8 0, .int .u8 0, .int .u8 0, .int .u8 0, .int .u8 0, .int .u8 0, .int .u8 0, .int .u8 0, .int .u8 0, .int .u8 0, .int .u8 0, .int .u8 0, .int .u8 0, .int .u8 0, .int .u8 0, .int .u8 0, .int .u8 0, .int .u8 0, .int .u8 0, .int .u8 0, .int .u8 0, .int .u8 0, .int .u8 0, .int .u8 0, .int .u8 0, .int .u8 0, .int .u8 0, .int .u8 0, .int .u8 0, .int .u8 0, .int .u8 0, .int .u8 0, .int .u8 0, .int .u8 0, .int .u8 0, .int .u8 0, .int .u8 0, .int .u8 0, .int .u8 0, .int .u8 0, .int .u8 0, .int .u8 0, .int .u8 0, .int .u8 0, .int .u8 0, .int .u8 0, .int .u8 0, .int .u8 0, .int .u8 0, .int .u8 0, .int .u8 0, .int .u8 0, .int .u8 0, .int .u8 0, .int .u8 0, .int .u8 0, .int .u8 0, .int .u8 0, .int .u8 0, .int .u8 0, .int .u8 0, .int .u8 0, .int .u8 0, .int .u8 0, .int .u8 0, .int .u8 0, .int .u8 0, .int .u8 0, .int .u8 0, .int .u8 0, .int .u8 0, .int .u8 0, .int .u8 0, .int .u8 0, .int .u8 0, .int .u8 0, .int .u8 0, .int .u8 0, .int .u8 0, .int .u8 0, .int .u8 0, .int .u8 0, .int .u8 0, .int .u8 0, .int .u8 0, .int .u8 0, .int .u8 0, .int .u8 0, .int .u8 0, .int .u8 0, .int .u8 0, .int .u8 0, .int .u8 0, .int .u8 0, .int .u8 0, .int .u8 0, .int .u8 0, .int .u8 0, .int .u8 0, .int .u8 0, .int .u8 0, .int .u8 0, .int .u8 0, .int .u8 0, .int .u8 0, .int .u8 0, .int .u8 0, .int .u8 0, .int .u8 0, .int .u8 0, .int .u8 0, .int .u8 0, .int .u8 0, .int .u8 0, .int .u8 0, .int .u8 0, .int .u8 0, .int .u8 0, .int .u8 0, .int .u8 0, .int .u8 0, .int .u8 0, .int .u8 0, .int .u8 0, .int .u8 0, .int .u8 0, .int .u8 0, .int .u8 0, .int .u8 0, .int .u8 0, .int .u8 0, .int .u8 0, .int .u8 0, .int .u8 0, .int .u8 0, .int .u8 0, .int .u8 0, .int .u8 0, .int .u8 0, .int .u8 0, .int .u8 0, .int .u8 0, .int .u8 0, .int .u8 0, .int .u8 0, .int .u8 0, .int .u8 0, .int .u8 0, .int .u8 0, .int .u8 0, .int .u8 0, .int .u8 0, .int .u8 0, .int .u8 0, .int .u8 0, .int .u8 0, .int .u8 0, .int .u8 0, .int .u8 0, .int .u8 0, .int .u8 0, .int .u8 0, .int .u8 0, .int .u8 0, .int .u8 0, .int .u8 0, .int .u8 0, .int .u8 0]), (3, [.unk]), (4, [.unk])]
abbrev extsJ : List (Nat × Ext) := exts
theorem extsJ_ok : ∀ p ∈ extsJ, ExtOne Tryz.prog Tryz.prog.globals.size p.1 p.2 := exts_ok
theorem gs_ok : gs.all (fun p => and (p.2.all plainC) (decide (p.1 < Tryz.prog.globals.size))) = true := by kernel_rfl
/-- strings.Fields at constant texts: reckoned once -/
abbrev gsM : List (Nat × List C) := [(0, [.int .u8 0, .int .u8 0, .int .u8 0, .int .u8 0, .int .u8 0, .int .u8 0, .int .u8 0, .int .u8 0, .int .u8 0, .int .u8 1, .int .u8 1, .int .u8 1, .int .u8 1, .int .u8 1, .int .u8 0, .int .u8 0, .int .u8 0, .int .u8 0, .int .u8 0, .int .u8 0, .int .u8 0, .int .u8 0, .int .u8 0, .int .u8 0, .int .u8 0, .int .u8 0, .int .u8 0, .int .u8 0, .int .u8 0, .int .u8 0, .int .u8 0, .int .u8 0, .int .u8 1, .int .u8 0, .int .u8 0, .int .u8 0, .int .u8 0, .int .u8 0, .int .u8 0, .int .u8 0, .int .u8 0, .int .u8 0, .int .u8 0, .int .u8 0, .int .u8 0, .int .u8 0, .int .u8 0, .int .u8 0, .int .u8 0, .int .u8 0, .int .u8 0, .int .u8 0, .int .u8 0, .int .u8 0, .int .u8 0, .int .u8 0, .int .u8 0, .int .u8 0, .int .u8 0, .int .u8 0, .int .u8 0, .int .u8 0, .int .u8 0, .int .u8 0, .int .u8 0, .int .u8 0, .int .u8 0, .int .u8 0, .int .u8 0, .int .u8 0, .int .u8 0, .int .u8 0, .int .u8 0, .int .u8 0, .int .u8 0, .int .u8 0, .int .u8 0, .int .u8 0, .int .u8 0, .int .u8 0, .int .u8 0, .int .u8 0, .int .u8 0, .int .u8 0, .int .u8 0, .int .u8 0, .int .u8 0, .int .u8 0, .int .u8 0, .int .u8 0, .int .u8 0, .int .u8 0, .int .u8 0, .int .u8 0, .int .u8 0, .int .u8 0, .int .u8 0, .int .u8 0, .int .u8 0, .int .u8 0, .int .u8 0, .int .u8 0, .int .u8 0, .int .u8 0, .int .u8 0, .int .u8 0, .int .u8 0, .int .u8 0, .int .u8 0, .int .u8 0, .int .u8 0, .int .u8 0, .int .u8 0, .int .u8 0, .int .u8 0, .int .u8 0, .int .u8 0, .int .u8 0, .int .u8 0, .int .u8 0, .int .u8 0, .int .u8 0, .int .u8 0, .int .u8 0, .int .u8 0, .int .u8 0, .int .u8 0, .int .u8 0, .int .u8 0, .int .u8 0, .int .u8 0, .int .u8 0, .int .u8 0, .int .u8 0, .int .u8 0, .int .u8 0, .int .u8 0, .int .u8 0, .int .u8 0, .int .u8 0, .int .u8 0, .int .u8 0, .int .u8 0, .int .u8 0, .int .u8 0, .int .u8 0, .int .u8 0, .int .u8 0, .int .u8 0, .int .u8 0, .int .u8 0, .int .u8 0, .int .u8 0, .int .u8 0, .int .u8 0, .int .u8 0, .int .u8 0, .int .u8 0, .int .u8 0, .int .u8 0, .int .u8 0, .int .u8 0, .int .u8 0, .int .u8 0, .int .u8 0, .int .u8 0, .int .u8 0, .int .u8 0, .int .u8 0, .int .u8 0, .int .u8 0, .int .u8 0, .int .u8 0, .int .u8 0, .int .u8 0, .int .u8 0, .int .u8 0, .int .u8 0, .int .u8 0, .int .u8 0, .int .u8 0, .int .u8 0, .int .u8 0, .int .u8 0, .int .u8 0, .int .u8 0, .int .u8 0, .int .u8 0, .int .u8 0, .int .u8 0, .int .u8 0, .int .u8 0, .int .u8 0, .int .u8 0, .int .u8 0, .int .u8 0, .int .u8 0, .int .u8 0, .int .u8 0, .int .u8 0, .int .u8 0, .int .u8 0, .int .u8 0, .int .u8 0, .int .u8 0, .int .u8 0, .int .u8 0, .int .u8 0, .int .u8 0, .int .u8 0, .int .u8 0, .int .u8 0, .int .u8 0, .int .u8 0, .int .u8 0, .int .u8 0, .int .u8 0, .int .u8 0, .int .u8 0, .int .u8 0, .int .u8 0, .int .u8 0, .int .u8 0, .int .u8 0, .int .u8 0, .int .u8 0, .int .u8 0, .int .u8 0, .int .u8 0, .int .u8 0, .int .u8 0, .int .u8 0, .int .u8 0, .int .u8 0, .int .u8 0, .int .u8 0, .int .u8 0, .int .u8 0, .int .u8 0, .int .u8 0, .int .u8 0, .int .u8 0, .int .u8 0, .int .u8 0, .int .u8 0, .int .u8 0, .int .u8 0, .int .u8 0, .int .u8 0, .int .u8 0, .int .u8 0, .int .u8 0, .int .u8 0, .int .u8 0, .int .u8 0, .int .u8 0])]
theorem gsM_ok : gsM.all (fun p => and (p.2.all plainC) (decide (p.1 < Tryz.prog.globals.size))) = true := by kernel_rfl
abbrev memos : List (List W × Nat × List C) := [([.c (.str ⟨72, 56158277549290796591401056552427106106699179583472558247090072383952908283781586490738077422014554019732798267762261191628222433767356484134379108071589780618508202549343589⟩)], 14, [.str ⟨1, 58⟩, .str ⟨4, 1953658213⟩, .str ⟨5, 439721161573⟩, .str ⟨4, 1701013615⟩, .str ⟨4, 1952805748⟩, .str ⟨1, 91⟩, .str ⟨3, 7562612⟩, .str ⟨5, 495672977012⟩, .str ⟨5, 504364230004⟩, .str ⟨4, 1919246692⟩, .str ⟨4, 1702390132⟩, .str ⟨6, 125780071117422⟩, .str ⟨5, 422826041707⟩, .str ⟨8, 7165066978433856869⟩]), ([.c (.str ⟨23, 4348097628406013595055126888440558642710602047579580261⟩)], 6, [.str ⟨3, 2975089⟩, .str ⟨3, 2977381⟩, .str ⟨3, 2976884⟩, .str ⟨3, 2976869⟩, .str ⟨3, 2975604⟩, .str ⟨3, 2975589⟩])]
theorem memos_run : memos.all (fun m => memoRun (runF (envOf Tryz.prog extsJ kps) 20 (200 + 1) 16 m.1 (st0 gsM Tryz.prog.globals.size)) m.2.1 1 m.2.2) = true := by kernel_rfl
theorem memo_ok : ExtOne Tryz.prog Tryz.prog.globals.size 16 (.memo memos gsM 1) :=
  ext_memo any_ok types_ok fns_ok extsJ_ok gsM 1 gsM_ok (by kernel_rfl) memos (by kernel_rfl) (fun m hm => List.all_eq_true.1 memos_run m hm)
abbrev extsM : List (Nat × Ext) := (16, .memo memos gsM 1) :: extsJ
theorem extsM_ok : ∀ p ∈ extsM, ExtOne Tryz.prog Tryz.prog.globals.size p.1 p.2 := by
  intro p hp
  rcases List.mem_cons.1 hp with rfl | hp
  · exact memo_ok
  · exact extsJ_ok p hp
/-- what each law asks besides is reckoned once -/
theorem known_run : valOf (runF (envOf Tryz.prog extsM kps) 20 (200 + 1) 5 [] (st0 gs Tryz.prog.globals.size)) = some (.bool true) := by kernel_rfl
theorem known_ok : ExtOne Tryz.prog Tryz.prog.globals.size 5 (.const (.bool true) gs) :=
  ext_const any_ok types_ok fns_ok extsM_ok gs gs_ok (by kernel_rfl) rfl known_run
abbrev extsK : List (Nat × Ext) := (5, .const (.bool true) gs) :: extsM
theorem extsK_ok : ∀ p ∈ extsK, ExtOne Tryz.prog Tryz.prog.globals.size p.1 p.2 := by
  intro p hp
  rcases List.mem_cons.1 hp with rfl | hp
  · exact known_ok
  · exact extsM_ok p hp
abbrev Yes (f : Nat) (vals : Array Value) (w : World) : Prop := Calls Tryz.prog f vals w (fun e w' => e = .returned (.bool true) ∧ w.keptBut w' (fun _ => False) ∧ w.heap.size ≤ w'.heap.size)
end Be
