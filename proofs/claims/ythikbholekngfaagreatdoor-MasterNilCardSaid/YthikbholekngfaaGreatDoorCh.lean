/- The chapter's example, its run cut into known runs. -/
import Derived.Test.YthikbholekngfaaGreatDoorAbs14
import Derived.Test.YthikbholekngfaaGreatDoorCa
import Derived.Test.YthikbholekngfaaGreatDoorCc
open Go Go.Abs Go.Proofs
set_option maxRecDepth 100000
set_option maxHeartbeats 4000000
set_option linter.unusedSimpArgs false
set_option linter.unusedVariables false
namespace Go.Proofs.YthikbholekngfaaGreatDoor
namespace Aw
def bodyTab : List (Nat × Flags) := [(3, {}), (4, { esc := [3] }), (5, {}), (6, { tails := [2000001] }), (7, {}), (8, {}), (9, {}), (10, {}), (11, {}), (12, {}), (13, {}), (14, {}), (15, {}), (16, { esc := [1, 23], tails := [2000002] }), (17, { esc := [6, 23] }), (18, { tails := [2000006, 2000013] }), (19, {}), (20, { tails := [2000000] }), (21, { tails := [2000005] }), (22, {}), (23, { tails := [2000000, 2000002] }), (24, { tails := [2000001, 2000003, 2000004] }), (25, { tails := [2000001] }), (26, {}), (27, {}), (28, { tails := [2000002, 2000007] }), (29, {}), (30, {}), (31, {}), (32, {}), (33, {}), (34, {}), (35, {}), (36, {}), (37, {}), (38, { esc := [7] }), (39, {}), (40, { esc := [1, 3] }), (41, { esc := [12] }), (42, { esc := [2] }), (43, { esc := [1, 15, 5], tails := [2000014, 4000014] }), (44, { esc := [7] }), (45, { tails := [2000011, 2000013] }), (46, { tails := [2000003, 2000004, 2000005] }), (47, {}), (48, {}), (49, { esc := [6] }), (50, {}), (51, { tails := [2000005] }), (52, {}), (53, { esc := [11] }), (54, {}), (55, {}), (56, { tails := [2000005, 2000007, 2000011] }), (57, { tails := [2000011] }), (58, {}), (59, {}), (60, {}), (61, {}), (62, {}), (63, { tails := [2000007] }), (64, {}), (65, { tails := [2000003, 2000004] }), (66, {}), (67, { tails := [2000004] }), (68, { esc := [46, 47], tails := [2000005, 2000008] }), (69, {}), (70, {}), (71, { tails := [2000002] }), (72, { tails := [2000001, 2000007, 2000008, 2000009, 2000011] }), (73, {}), (74, { tails := [2000001] }), (75, {}), (76, {}), (77, {}), (78, {}), (79, {}), (80, {}), (81, {}), (82, {}), (83, { tails := [2000005] }), (84, {}), (85, {}), (86, { tails := [2000001] }), (87, {}), (88, { tails := [2000002] }), (89, { tails := [2000001] }), (90, {}), (91, { tails := [2000001, 2000004, 2000005] }), (92, { tails := [2000001] }), (93, { tails := [2000002] }), (94, { tails := [2000001] }), (95, {}), (96, { esc := [1] }), (97, { tails := [2000001] }), (98, {}), (99, {}), (100, {}), (101, {}), (102, {}), (103, {}), (104, {}), (105, {}), (106, {}), (107, { keep := true }), (108, {}), (109, {}), (110, {}), (111, {}), (112, {}), (113, {}), (114, {}), (115, {}), (116, {}), (117, {}), (118, {}), (119, {}), (120, { tails := [2000002] }), (121, { tails := [2000013] }), (122, { tails := [2000001, 2000002] }), (123, { esc := [1] }), (124, {}), (125, {}), (126, {}), (127, { tails := [2000001] }), (128, { tails := [2000001] }), (129, {}), (130, { keep := true }), (131, { tails := [2000002] }), (132, { tails := [2000001, 2000007] }), (133, {}), (134, {}), (135, {}), (136, {}), (137, {}), (138, {}), (139, {}), (140, { tails := [2000008] }), (141, {}), (142, {}), (143, {}), (144, {}), (145, {}), (146, {}), (147, {}), (148, {}), (149, {}), (150, {}), (151, {}), (152, {}), (153, {}), (154, {}), (155, {}), (156, {}), (157, {}), (158, {}), (159, {}), (160, {}), (161, {}), (162, { tails := [2000001] }), (163, { tails := [2000001] }), (164, {}), (165, { tails := [2000005] }), (166, {}), (167, {}), (168, {}), (169, {}), (170, {}), (171, {}), (172, {}), (173, {}), (174, {}), (175, {}), (176, {}), (177, {}), (178, {}), (179, {}), (180, {}), (181, {}), (182, {}), (183, { tails := [2000003, 2000005, 2000007] }), (184, {}), (185, { tails := [2000001] }), (186, { tails := [2000012] }), (187, { tails := [2000002] }), (188, {}), (189, {}), (190, { tails := [2000003] }), (191, {}), (192, { tails := [2000001] }), (193, {}), (194, { tails := [2000007] }), (195, { tails := [2000004] }), (196, {}), (197, {}), (198, { keep := true }), (199, {}), (200, {}), (201, {}), (202, {}), (203, { esc := [6] }), (204, {}), (205, {}), (206, {}), (207, {}), (208, {}), (209, {}), (210, {}), (211, {}), (212, {}), (213, {}), (214, {}), (215, {}), (216, { tails := [2000001] }), (217, {}), (218, {}), (219, { tails := [2000017] }), (220, {}), (221, {}), (222, {}), (223, {}), (224, {}), (225, {}), (226, {}), (227, { tails := [1000006] }), (228, { tails := [2000008] }), (229, { tails := [2000004] }), (230, {}), (231, { tails := [2000005] }), (232, { tails := [2000005] }), (233, {}), (234, { tails := [2000004, 2000006] }), (235, { tails := [2000005, 2000011, 2000017, 2000023, 2000035] }), (236, {}), (237, {}), (238, {}), (239, {}), (240, {}), (241, {}), (242, {}), (243, {}), (244, { tails := [2000004, 2000006] }), (245, { tails := [2000010] }), (246, { tails := [2000010] }), (247, {}), (248, { tails := [2000003] }), (249, { tails := [2000005, 2000011, 2000016, 2000017, 2000022, 2000023] }), (250, {}), (251, { tails := [2000001, 2000003, 2000005, 2000008] }), (252, { tails := [2000001, 2000003, 2000005, 2000008, 2000010, 2000013, 2000015, 2000018, 2000021] }), (253, {}), (254, {}), (255, {}), (256, {}), (257, {}), (258, {}), (259, {}), (260, { tails := [2000003, 2000005, 2000006] }), (261, {}), (262, { tails := [2000001, 2000002, 2000003] }), (263, {}), (264, {}), (265, {}), (266, {}), (267, { tails := [2000003] }), (268, {}), (269, { tails := [2000001] })]
def how0 (f : FuncId) : Option How := (bodyTab.find? fun p => p.1 == f).map fun p => How.body p.2
def fnOk (P : Program) (how0 : FuncId → Option How) (f : Nat) : Bool :=
  match how0 f with
  | some (.body fl) => match P.funcs[f]? with
    | some fn => match fn.body with
      | some c => codeOk P fl.tails c && !(fn.name == "runtime.NumGoroutine")
      | none => true
    | none => true
  | _ => true
theorem allOk_0 : ((List.range 40).all fun i => fnOk Tryz.prog how0 (0 + i)) = true := by kernel_rfl
theorem allOk_1 : ((List.range 40).all fun i => fnOk Tryz.prog how0 (40 + i)) = true := by kernel_rfl
theorem allOk_2 : ((List.range 40).all fun i => fnOk Tryz.prog how0 (80 + i)) = true := by kernel_rfl
theorem allOk_3 : ((List.range 40).all fun i => fnOk Tryz.prog how0 (120 + i)) = true := by kernel_rfl
theorem allOk_4 : ((List.range 40).all fun i => fnOk Tryz.prog how0 (160 + i)) = true := by kernel_rfl
theorem allOk_5 : ((List.range 40).all fun i => fnOk Tryz.prog how0 (200 + i)) = true := by kernel_rfl
theorem allOk_6 : ((List.range 40).all fun i => fnOk Tryz.prog how0 (240 + i)) = true := by kernel_rfl
theorem allOk : ∀ f, f < 270 → fnOk Tryz.prog how0 f = true := by
  intro f hf
  by_cases h0 : f < 40
  · have this : fnOk Tryz.prog how0 (0 + (f - 0)) = true := List.all_eq_true.1 allOk_0 (f - 0) (List.mem_range.2 (by omega))
    rwa [show 0 + (f - 0) = f by omega] at this
  by_cases h1 : f < 80
  · have this : fnOk Tryz.prog how0 (40 + (f - 40)) = true := List.all_eq_true.1 allOk_1 (f - 40) (List.mem_range.2 (by omega))
    rwa [show 40 + (f - 40) = f by omega] at this
  by_cases h2 : f < 120
  · have this : fnOk Tryz.prog how0 (80 + (f - 80)) = true := List.all_eq_true.1 allOk_2 (f - 80) (List.mem_range.2 (by omega))
    rwa [show 80 + (f - 80) = f by omega] at this
  by_cases h3 : f < 160
  · have this : fnOk Tryz.prog how0 (120 + (f - 120)) = true := List.all_eq_true.1 allOk_3 (f - 120) (List.mem_range.2 (by omega))
    rwa [show 120 + (f - 120) = f by omega] at this
  by_cases h4 : f < 200
  · have this : fnOk Tryz.prog how0 (160 + (f - 160)) = true := List.all_eq_true.1 allOk_4 (f - 160) (List.mem_range.2 (by omega))
    rwa [show 160 + (f - 160) = f by omega] at this
  by_cases h5 : f < 240
  · have this : fnOk Tryz.prog how0 (200 + (f - 200)) = true := List.all_eq_true.1 allOk_5 (f - 200) (List.mem_range.2 (by omega))
    rwa [show 200 + (f - 200) = f by omega] at this
  by_cases h6 : f < 280
  · have this : fnOk Tryz.prog how0 (240 + (f - 240)) = true := List.all_eq_true.1 allOk_6 (f - 240) (List.mem_range.2 (by omega))
    rwa [show 240 + (f - 240) = f by omega] at this
  omega
theorem tabLow : (bodyTab.all fun p => decide (p.1 < 270)) = true := by decide
theorem how0_ok : HowOk Tryz.prog how0 := {
  body := by
    intro f fl fn c h1 h2 h3
    have h1' := h1
    unfold how0 at h1
    obtain ⟨p, hp, _⟩ := Option.map_eq_some_iff.1 h1
    have q1 := List.all_eq_true.1 tabLow p (List.mem_of_find?_eq_some hp)
    have q2 := List.find?_some hp
    simp only [beq_iff_eq] at q2
    have h := allOk f (by rw [← q2]; simpa using q1)
    unfold fnOk at h
    rw [h1'] at h
    simp only [h2, h3] at h
    simpa using h
  prim := by
    intro f p h
    unfold how0 at h
    obtain ⟨q, _, h1⟩ := Option.map_eq_some_iff.1 h
    cases h1 }
theorem hm : Tryz.prog.follows .mixedOrders = true := by kernel_rfl
def howC : FuncId → Option How := addH how0 19 (codeP 218 36)
theorem howC_ok : HowOk Tryz.prog howC := how0_ok.add code_ok
/-- Keys sorted, of the one map's keys or the other's. -/
noncomputable def orP (p q : List AV → AS → Option Nat → Option (AV × AS)) (args : List AV) (σ : AS) (ro : Option Nat) : Option (AV × AS) := match p args σ ro with
  | some r => some r
  | none => q args σ ro
theorem orP_ok {P : Program} {f : FuncId} {p q : List AV → AS → Option Nat → Option (AV × AS)} (hp : PrimOk P f p) (hq : PrimOk P f q) : PrimOk P f (orP p q) := {
  ent := hp.ent
  snd := by
    intro args σ ro v σ' h
    unfold orP at h
    split at h
    · rename_i r e
      cases h
      exact hp.snd args σ ro v σ' e
    · exact hq.snd args σ ro v σ' h
  beh := by
    intro args σ ro v σ' h
    unfold orP at h
    split at h
    · rename_i r e
      cases h
      exact hp.beh args σ ro v σ' e
    · exact hq.beh args σ ro v σ' h }
noncomputable def howD : FuncId → Option How := addH howC 95 (orP (sortedA kindI 168) (sortedA kindI 184))
theorem howD_ok : HowOk Tryz.prog howD := howC_ok.add (orP_ok (sorted_prim (kindI_ok Tryz.underlying3) Tryz.sortedCon) (sorted_prim (kindI_ok Tryz.underlying3) Tryz.sortedConB))
def o0 : AObj := .cells [.int .i64 1000, .nils, .int .i64 0, .nils, .int .i64 0, .bool false, .bool false, .int .i64 0]
def o1 : AObj := .cells [.int .i64 0, .int .i64 1, .int .i64 1, .int .i64 1, .int .i64 1, .int .i64 5, .int .i64 2]
def o2 : AObj := .cells [.int .u64 0, .int .i64 0, .map (.hp 3)]
def o3 : AObj := .cells [.int .i64 0, .int .i64 1, .int .i64 0, .int .u64 0, .int .i64 0, .int .i64 0, .int .u8 0, .nilm, .nilm, .int .i64 0]
def o4 : AObj := .cells [.str ⟨#[]⟩, .bool false, .str ⟨#[]⟩, .bool false, .str ⟨#[]⟩, .bool false, .str ⟨#[]⟩, .bool false, .str ⟨#[]⟩, .bool false, .str ⟨#[]⟩, .bool false, .str ⟨#[]⟩, .bool false, .str ⟨#[]⟩, .bool false, .str ⟨#[]⟩, .bool false, .str ⟨#[]⟩, .bool false, .str ⟨#[]⟩, .bool false, .str ⟨#[]⟩, .bool false, .str ⟨#[]⟩, .bool false, .str ⟨#[]⟩, .bool false, .str ⟨#[]⟩, .bool false, .str ⟨#[]⟩, .bool false, .str ⟨#[]⟩, .bool false, .str ⟨#[]⟩, .bool false, .str ⟨#[]⟩, .bool false, .str ⟨#[]⟩, .bool false, .str ⟨#[]⟩, .bool false, .str ⟨#[]⟩, .bool false, .str ⟨#[]⟩, .bool false, .str ⟨#[]⟩, .bool false, .str ⟨#[]⟩, .bool false, .str ⟨#[]⟩, .bool false, .str ⟨#[]⟩, .bool false, .str ⟨#[]⟩, .bool false, .str ⟨#[]⟩, .bool false, .str ⟨#[]⟩, .bool false, .str ⟨#[]⟩, .bool false, .str ⟨#[]⟩, .bool false, .str ⟨#[]⟩, .bool false, .str ⟨#[]⟩, .bool false, .str ⟨#[]⟩, .bool false, .str ⟨#[]⟩, .bool false, .str ⟨#[]⟩, .bool false, .str ⟨#[]⟩, .bool false, .str ⟨#[]⟩, .bool false, .str ⟨#[]⟩, .bool false, .str ⟨#[]⟩, .bool false, .str ⟨#[]⟩, .bool false, .str ⟨#[]⟩, .bool false, .str ⟨#[]⟩, .bool false, .str ⟨#[]⟩, .bool false, .str ⟨#[]⟩, .bool false, .str ⟨#[]⟩, .bool false, .str ⟨#[]⟩, .bool false, .str ⟨#[]⟩, .bool false, .str ⟨#[]⟩, .bool false, .str ⟨#[]⟩, .bool false, .str ⟨#[]⟩, .bool false, .str ⟨#[]⟩, .bool false, .str ⟨#[]⟩, .bool false, .str ⟨#[]⟩, .bool false, .str ⟨#[]⟩, .bool false, .str ⟨#[]⟩, .bool false, .str ⟨#[]⟩, .bool false, .str ⟨#[]⟩, .bool false, .str ⟨#[]⟩, .bool false, .str ⟨#[]⟩, .bool false, .str ⟨#[]⟩, .bool false, .str ⟨#[]⟩, .bool false, .str ⟨#[]⟩, .bool false, .str ⟨#[]⟩, .bool false, .str ⟨#[]⟩, .bool false, .str ⟨#[]⟩, .bool false, .str ⟨#[]⟩, .bool false, .str ⟨#[]⟩, .bool false, .str ⟨#[]⟩, .bool false, .str ⟨#[]⟩, .bool false, .str ⟨#[]⟩, .bool false, .str ⟨#[]⟩, .bool false, .str ⟨#[]⟩, .bool false, .str ⟨#[]⟩, .bool false, .str ⟨#[]⟩, .bool false, .str ⟨#[]⟩, .bool false, .str ⟨#[]⟩, .bool false, .str ⟨#[]⟩, .bool false, .str ⟨#[]⟩, .bool false, .str ⟨#[]⟩, .bool false, .str ⟨#[]⟩, .bool false, .str ⟨#[]⟩, .bool false, .str ⟨#[]⟩, .bool false, .str ⟨#[]⟩, .bool false, .str ⟨#[]⟩, .bool false, .str ⟨#[]⟩, .bool false, .str ⟨#[]⟩, .bool false, .str ⟨#[]⟩, .bool false, .str ⟨#[]⟩, .bool false, .str ⟨#[]⟩, .bool false, .str ⟨#[]⟩, .bool false, .str ⟨#[]⟩, .bool false, .str ⟨#[]⟩, .bool false, .str ⟨#[]⟩, .bool false, .str ⟨#[]⟩, .bool false, .str ⟨#[]⟩, .bool false, .str ⟨#[]⟩, .bool false, .str ⟨#[]⟩, .bool false, .str ⟨#[]⟩, .bool false, .str ⟨#[]⟩, .bool false, .str ⟨#[]⟩, .bool false, .str ⟨#[]⟩, .bool false, .str ⟨#[]⟩, .bool false, .str ⟨#[]⟩, .bool false, .str ⟨#[]⟩, .bool false, .str ⟨#[]⟩, .bool false, .str ⟨#[]⟩, .bool false, .str ⟨#[]⟩, .bool false, .str ⟨#[]⟩, .bool false, .str ⟨#[]⟩, .bool false, .str ⟨#[]⟩, .bool false, .str ⟨#[]⟩, .bool false, .str ⟨#[]⟩, .bool false, .str ⟨#[]⟩, .bool false, .str ⟨#[]⟩, .bool false, .str ⟨#[]⟩, .bool false, .str ⟨#[]⟩, .bool false, .str ⟨#[]⟩, .bool false, .str ⟨#[]⟩, .bool false, .str ⟨#[]⟩, .bool false, .str ⟨#[]⟩, .bool false, .str ⟨#[]⟩, .bool false, .str ⟨#[]⟩, .bool false, .str ⟨#[]⟩, .bool false, .str ⟨#[]⟩, .bool false, .str ⟨#[]⟩, .bool false, .str ⟨#[]⟩, .bool false, .str ⟨#[]⟩, .bool false, .str ⟨#[]⟩, .bool false, .str ⟨#[]⟩, .bool false, .str ⟨#[]⟩, .bool false, .str ⟨#[]⟩, .bool false, .str ⟨#[]⟩, .bool false, .str ⟨#[]⟩, .bool false, .str ⟨#[]⟩, .bool false, .str ⟨#[]⟩, .bool false, .str ⟨#[]⟩, .bool false, .str ⟨#[]⟩, .bool false, .str ⟨#[]⟩, .bool false, .str ⟨#[]⟩, .bool false, .str ⟨#[]⟩, .bool false, .str ⟨#[]⟩, .bool false, .str ⟨#[]⟩, .bool false, .str ⟨#[]⟩, .bool false, .str ⟨#[]⟩, .bool false, .str ⟨#[]⟩, .bool false, .str ⟨#[]⟩, .bool false, .str ⟨#[]⟩, .bool false, .str ⟨#[]⟩, .bool false, .str ⟨#[]⟩, .bool false, .str ⟨#[]⟩, .bool false, .str ⟨#[]⟩, .bool false, .str ⟨#[]⟩, .bool false, .str ⟨#[]⟩, .bool false, .str ⟨#[]⟩, .bool false, .str ⟨#[]⟩, .bool false, .str ⟨#[]⟩, .bool false, .str ⟨#[]⟩, .bool false, .str ⟨#[]⟩, .bool false, .str ⟨#[]⟩, .bool false, .str ⟨#[]⟩, .bool false, .str ⟨#[]⟩, .bool false, .str ⟨#[]⟩, .bool false, .str ⟨#[]⟩, .bool false, .str ⟨#[]⟩, .bool false, .str ⟨#[]⟩, .bool false, .str ⟨#[]⟩, .bool false, .str ⟨#[]⟩, .bool false, .str ⟨#[]⟩, .bool false, .str ⟨#[]⟩, .bool false, .str ⟨#[]⟩, .bool false, .str ⟨#[]⟩, .bool false, .str ⟨#[]⟩, .bool false, .str ⟨#[]⟩, .bool false, .str ⟨#[]⟩, .bool false, .str ⟨#[]⟩, .bool false, .str ⟨#[]⟩, .bool false, .str ⟨#[]⟩, .bool false, .str ⟨#[]⟩, .bool false, .str ⟨#[]⟩, .bool false, .str ⟨#[]⟩, .bool false, .str ⟨#[]⟩, .bool false, .str ⟨#[]⟩, .bool false, .str ⟨#[]⟩, .bool false, .str ⟨#[]⟩, .bool false, .str ⟨#[]⟩, .bool false, .str ⟨#[]⟩, .bool false, .str ⟨#[]⟩, .bool false, .str ⟨#[]⟩, .bool false, .str ⟨#[]⟩, .bool false, .str ⟨#[]⟩, .bool false, .str ⟨#[]⟩, .bool false, .str ⟨#[]⟩, .bool false, .str ⟨#[]⟩, .bool false, .str ⟨#[]⟩, .bool false, .str ⟨#[]⟩, .bool false, .str ⟨#[]⟩, .bool false, .str ⟨#[]⟩, .bool false, .str ⟨#[]⟩, .bool false, .str ⟨#[]⟩, .bool false, .str ⟨#[]⟩, .bool false, .str ⟨#[]⟩, .bool false, .str ⟨#[]⟩, .bool false, .str ⟨#[]⟩, .bool false, .str ⟨#[]⟩, .bool false, .str ⟨#[]⟩, .bool false, .str ⟨#[]⟩, .bool false, .str ⟨#[]⟩, .bool false, .str ⟨#[]⟩, .bool false, .str ⟨#[]⟩, .bool false, .str ⟨#[]⟩, .bool false, .str ⟨#[]⟩, .bool false, .str ⟨#[]⟩, .bool false, .str ⟨#[]⟩, .bool false, .str ⟨#[]⟩, .bool false, .str ⟨#[]⟩, .bool false, .str ⟨#[]⟩, .bool false, .str ⟨#[]⟩, .bool false, .str ⟨#[]⟩, .bool false, .str ⟨#[]⟩, .bool false, .str ⟨#[]⟩, .bool false, .str ⟨#[]⟩, .bool false, .str ⟨#[]⟩, .bool false, .str ⟨#[]⟩, .bool false, .str ⟨#[]⟩, .bool false, .str ⟨#[]⟩, .bool false, .str ⟨#[]⟩, .bool false, .str ⟨#[]⟩, .bool false, .str ⟨#[]⟩, .bool false, .str ⟨#[]⟩, .bool false, .str ⟨#[]⟩, .bool false, .str ⟨#[]⟩, .bool false, .str ⟨#[]⟩, .bool false, .str ⟨#[]⟩, .bool false, .str ⟨#[]⟩, .bool false, .str ⟨#[]⟩, .bool false, .str ⟨#[]⟩, .bool false, .str ⟨#[]⟩, .bool false, .str ⟨#[]⟩, .bool false, .str ⟨#[]⟩, .bool false, .str ⟨#[]⟩, .bool false, .str ⟨#[]⟩, .bool false, .str ⟨#[]⟩, .bool false, .str ⟨#[]⟩, .bool false, .str ⟨#[]⟩, .bool false, .str ⟨#[]⟩, .bool false, .str ⟨#[]⟩, .bool false, .str ⟨#[]⟩, .bool false, .str ⟨#[]⟩, .bool false, .str ⟨#[]⟩, .bool false, .str ⟨#[]⟩, .bool false, .str ⟨#[]⟩, .bool false, .str ⟨#[]⟩, .bool false, .str ⟨#[]⟩, .bool false, .str ⟨#[]⟩, .bool false, .str ⟨#[]⟩, .bool false, .str ⟨#[]⟩, .bool false, .str ⟨#[]⟩, .bool false, .str ⟨#[]⟩, .bool false, .str ⟨#[]⟩, .bool false, .str ⟨#[]⟩, .bool false, .str ⟨#[]⟩, .bool false, .str ⟨#[]⟩, .bool false, .str ⟨#[]⟩, .bool false, .str ⟨#[]⟩, .bool false, .str ⟨#[]⟩, .bool false, .str ⟨#[]⟩, .bool false, .str ⟨#[]⟩, .bool false, .str ⟨#[]⟩, .bool false, .str ⟨#[]⟩, .bool false, .str ⟨#[]⟩, .bool false, .str ⟨#[]⟩, .bool false, .str ⟨#[]⟩, .bool false, .str ⟨#[]⟩, .bool false, .str ⟨#[]⟩, .bool false, .str ⟨#[]⟩, .bool false, .str ⟨#[]⟩, .bool false, .str ⟨#[]⟩, .bool false, .str ⟨#[]⟩, .bool false, .str ⟨#[]⟩, .bool false, .str ⟨#[]⟩, .bool false, .str ⟨#[]⟩, .bool false, .str ⟨#[]⟩, .bool false, .str ⟨#[]⟩, .bool false, .str ⟨#[]⟩, .bool false, .str ⟨#[]⟩, .bool false, .str ⟨#[]⟩, .bool false, .str ⟨#[]⟩, .bool false, .str ⟨#[]⟩, .bool false, .str ⟨#[]⟩, .bool false, .str ⟨#[]⟩, .bool false, .str ⟨#[]⟩, .bool false, .str ⟨#[]⟩, .bool false, .str ⟨#[]⟩, .bool false, .str ⟨#[]⟩, .bool false, .str ⟨#[]⟩, .bool false, .str ⟨#[]⟩, .bool false, .str ⟨#[]⟩, .bool false, .str ⟨#[]⟩, .bool false, .str ⟨#[]⟩, .bool false, .str ⟨#[]⟩, .bool false, .str ⟨#[]⟩, .bool false, .str ⟨#[]⟩, .bool false, .str ⟨#[]⟩, .bool false, .str ⟨#[]⟩, .bool false, .str ⟨#[]⟩, .bool false, .str ⟨#[]⟩, .bool false, .str ⟨#[]⟩, .bool false, .str ⟨#[]⟩, .bool false, .str ⟨#[]⟩, .bool false, .str ⟨#[]⟩, .bool false, .str ⟨#[]⟩, .bool false, .str ⟨#[]⟩, .bool false, .str ⟨#[]⟩, .bool false, .str ⟨#[]⟩, .bool false, .str ⟨#[]⟩, .bool false, .str ⟨#[]⟩, .bool false, .str ⟨#[]⟩, .bool false, .str ⟨#[]⟩, .bool false, .str ⟨#[]⟩, .bool false, .str ⟨#[]⟩, .bool false, .str ⟨#[]⟩, .bool false, .str ⟨#[]⟩, .bool false, .str ⟨#[]⟩, .bool false, .str ⟨#[]⟩, .bool false, .str ⟨#[]⟩, .bool false, .str ⟨#[]⟩, .bool false, .str ⟨#[]⟩, .bool false, .str ⟨#[]⟩, .bool false, .str ⟨#[]⟩, .bool false, .str ⟨#[]⟩, .bool false, .str ⟨#[]⟩, .bool false, .str ⟨#[]⟩, .bool false, .str ⟨#[]⟩, .bool false, .str ⟨#[]⟩, .bool false, .str ⟨#[]⟩, .bool false, .str ⟨#[]⟩, .bool false, .str ⟨#[]⟩, .bool false, .str ⟨#[]⟩, .bool false, .str ⟨#[]⟩, .bool false, .str ⟨#[]⟩, .bool false, .str ⟨#[]⟩, .bool false, .str ⟨#[]⟩, .bool false, .str ⟨#[]⟩, .bool false, .str ⟨#[]⟩, .bool false, .str ⟨#[]⟩, .bool false, .str ⟨#[]⟩, .bool false, .str ⟨#[]⟩, .bool false, .str ⟨#[]⟩, .bool false, .str ⟨#[]⟩, .bool false, .str ⟨#[]⟩, .bool false, .str ⟨#[]⟩, .bool false, .str ⟨#[]⟩, .bool false, .str ⟨#[]⟩, .bool false, .str ⟨#[]⟩, .bool false, .str ⟨#[]⟩, .bool false, .str ⟨#[]⟩, .bool false, .str ⟨#[]⟩, .bool false, .str ⟨#[]⟩, .bool false, .str ⟨#[]⟩, .bool false, .str ⟨#[]⟩, .bool false, .str ⟨#[]⟩, .bool false, .str ⟨#[]⟩, .bool false, .str ⟨#[]⟩, .bool false, .str ⟨#[]⟩, .bool false, .str ⟨#[]⟩, .bool false, .str ⟨#[]⟩, .bool false, .str ⟨#[]⟩, .bool false, .str ⟨#[]⟩, .bool false, .str ⟨#[]⟩, .bool false, .str ⟨#[]⟩, .bool false, .str ⟨#[]⟩, .bool false, .str ⟨#[]⟩, .bool false, .str ⟨#[]⟩, .bool false, .str ⟨#[]⟩, .bool false, .str ⟨#[]⟩, .bool false, .str ⟨#[]⟩, .bool false, .str ⟨#[]⟩, .bool false, .str ⟨#[]⟩, .bool false, .str ⟨#[]⟩, .bool false, .str ⟨#[]⟩, .bool false, .str ⟨#[]⟩, .bool false, .str ⟨#[]⟩, .bool false, .str ⟨#[]⟩, .bool false, .str ⟨#[]⟩, .bool false, .str ⟨#[]⟩, .bool false, .str ⟨#[]⟩, .bool false, .str ⟨#[]⟩, .bool false, .str ⟨#[]⟩, .bool false, .str ⟨#[]⟩, .bool false, .str ⟨#[]⟩, .bool false, .str ⟨#[]⟩, .bool false, .str ⟨#[]⟩, .bool false, .str ⟨#[]⟩, .bool false, .str ⟨#[]⟩, .bool false, .str ⟨#[]⟩, .bool false, .str ⟨#[]⟩, .bool false, .str ⟨#[]⟩, .bool false, .str ⟨#[]⟩, .bool false, .int .i64 0, .int .i64 0]
def o5 : AObj := .cells [.int .i64 1, .int .i64 1, .int .i64 1]
def o6 : AObj := .cells [.int .i64 1, .int .i64 1, .int .i64 1, .int .i64 0, .int .u64 1, .row (.hp 12) 0 0 1]
def o7 : AObj := .cells [.int .u64 1, .int .i64 0, .sl false 1 [.int .i64 0], .sl false 1 [.bool true], .int .i64 (-1)]
def o8 : AObj := .row [.int .i64 0] 1 0 true
def o9 : AObj := .row [.bool true] 1 0 true
def o10 : AObj := .row [.agg [.int .u64 1, .int .i64 0, .sl false 1 [.int .i64 0], .sl false 1 [.bool true], .int .i64 (-1)]] 5 0 false
def o11 : AObj := .cells [.int .i64 5, .int .i64 0, .int .u64 0, .bool false, .int .i64 0, .bool false, .int .i64 0, .int .i64 0, .int .u64 0, .bool false, .int .i64 0, .bool false, .int .i64 0, .int .i64 0, .int .u64 0, .bool false, .int .i64 0, .bool false, .int .i64 0, .int .i64 0, .int .u64 0, .bool false, .int .i64 0, .bool false, .int .i64 0, .int .i64 0, .int .u64 0, .bool false, .int .i64 0, .bool false, .int .i64 0, .int .i64 0, .int .u64 0, .bool false, .int .i64 0, .bool false, .int .i64 0, .int .i64 0, .int .u64 0, .bool false, .int .i64 0, .bool false, .int .i64 0, .int .i64 0, .int .u64 0, .bool false, .int .i64 0, .bool false, .int .i64 0]
def o12 : AObj := .cells [.int .i64 0, .int .i64 1, .int .i64 1, .int .i64 1, .int .i64 1, .int .i64 5, .int .i64 2, .nilp, .int .i64 0, .int .i64 0, .ptr (.hp 4) 0, .ptr (.hp 5) 0, .ptr (.hp 6) 0, .ptr (.hp 8) 0, .ptr (.hp 13) 0, .int .u64 0, .int .i64 0, .int .i64 0, .int .i64 0, .nils]
def o13 : AObj := .cells [.str ⟨#[101, 110, 100]⟩, .iface 36 (.int .i64 6)]
def o14 : AObj := .cells [.str ⟨#[104, 101, 97, 100]⟩, .iface 36 (.int .i64 3)]
def o15 : AObj := .cells [.int .u64 0, .nils, .int .i64 0, .int .i64 0]
def o16 : AObj := .cells [.ptr (.hp 0) 0, .int .i64 0, .int .u64 1, .bool false]
def o17 : AObj := .cells [.int .i64 1000, .sl false 1 [.int .u8 197, .int .u8 0, .int .u8 3, .int .u8 71, .int .u8 1, .int .u8 0, .int .u8 247, .int .u8 242, .int .u8 89, .int .u8 184], .int .i64 10, .nils, .int .i64 0, .bool false, .bool false, .int .i64 0]
def o18 : AObj := .cells [.int .u64 1, .int .i64 0, .map (.hp 3)]
def o19 : AObj := .cells [.int .i64 0, .int .i64 1, .int .i64 1, .int .u64 1, .int .i64 0, .int .i64 0, .int .u8 0, .map (.hp 21), .map (.hp 22), .int .i64 0]
def o20 : AObj := .cells [.int .i64 5, .int .i64 0, .int .u64 0, .bool false, .int .i64 0, .bool false, .int .i64 3, .int .i64 0, .int .u64 0, .bool false, .int .i64 0, .bool false, .int .i64 3, .int .i64 0, .int .u64 0, .bool false, .int .i64 0, .bool false, .int .i64 3, .int .i64 0, .int .u64 0, .bool false, .int .i64 0, .bool false, .int .i64 3, .int .i64 0, .int .u64 0, .bool false, .int .i64 0, .bool false, .int .i64 3, .int .i64 0, .int .u64 0, .bool false, .int .i64 0, .bool false, .int .i64 3, .int .i64 0, .int .u64 0, .bool false, .int .i64 0, .bool false, .int .i64 3, .int .i64 0, .int .u64 0, .bool false, .int .i64 0, .bool false, .int .i64 3]
def o21 : AObj := .cells [.int .i64 0, .int .i64 1, .int .i64 1, .int .i64 1, .int .i64 1, .int .i64 5, .int .i64 2, .ptr (.hp 20) 0, .int .i64 0, .int .i64 0, .ptr (.hp 4) 0, .ptr (.hp 5) 0, .ptr (.hp 6) 0, .ptr (.hp 8) 0, .ptr (.hp 13) 0, .int .u64 0, .int .i64 0, .int .i64 0, .int .i64 0, .nils]
def o22 : AObj := .cells [.map (.hp 3)]
def o23 : AObj := .cells [.int .u64 1, .int .i64 0]
def o24 : AObj := .cells [.int .u64 0, .int .i64 0]
def o25 : AObj := .cells [.int .i64 1000, .sl false 1 [.int .u8 197, .int .u8 0, .int .u8 3, .int .u8 71, .int .u8 1, .int .u8 0, .int .u8 247, .int .u8 242, .int .u8 89, .int .u8 184, .int .u8 197, .int .u8 0, .int .u8 3, .int .u8 80, .int .u8 1, .int .u8 0, .int .u8 2, .int .u8 71, .int .u8 48, .int .u8 161], .int .i64 10, .nils, .int .i64 0, .bool false, .bool false, .int .i64 0]
def o26 : AObj := .cells [.int .i64 1000, .sl false 1 [.int .u8 197, .int .u8 0, .int .u8 3, .int .u8 71, .int .u8 1, .int .u8 0, .int .u8 247, .int .u8 242, .int .u8 89, .int .u8 184, .int .u8 197, .int .u8 0, .int .u8 3, .int .u8 80, .int .u8 1, .int .u8 0, .int .u8 2, .int .u8 71, .int .u8 48, .int .u8 161], .int .i64 20, .nils, .int .i64 0, .bool false, .bool false, .int .i64 0]
def o27 : AObj := .cells [.int .i64 0, .int .i64 1, .int .i64 1, .int .i64 1, .int .i64 1, .int .i64 5, .int .i64 2, .ptr (.hp 20) 0, .int .i64 1, .int .i64 0, .ptr (.hp 4) 0, .ptr (.hp 5) 0, .ptr (.hp 6) 0, .ptr (.hp 8) 0, .ptr (.hp 13) 0, .int .u64 0, .int .i64 0, .int .i64 0, .int .i64 0, .nils]
def o28 : AObj := .cells [.int .i64 0, .int .i64 1, .int .i64 1, .int .i64 1, .int .i64 1, .int .i64 5, .int .i64 2, .ptr (.hp 20) 0, .int .i64 0, .int .i64 0, .ptr (.hp 4) 0, .ptr (.hp 5) 0, .ptr (.hp 6) 0, .ptr (.hp 8) 0, .ptr (.hp 13) 0, .int .u64 0, .int .i64 0, .int .i64 0, .int .i64 2, .nils]
def o29 : AObj := .cells [.int .i64 0, .int .i64 1, .int .i64 2, .int .u64 1, .int .i64 0, .int .i64 0, .int .u8 1, .map (.hp 21), .map (.hp 22), .int .i64 0]
def o30 : AObj := .cells [.int .i64 5, .int .i64 0, .int .u64 0, .bool false, .int .i64 0, .bool false, .int .i64 1, .int .i64 0, .int .u64 0, .bool false, .int .i64 0, .bool false, .int .i64 1, .int .i64 0, .int .u64 0, .bool false, .int .i64 0, .bool false, .int .i64 1, .int .i64 0, .int .u64 0, .bool false, .int .i64 0, .bool false, .int .i64 1, .int .i64 0, .int .u64 0, .bool false, .int .i64 0, .bool false, .int .i64 1, .int .i64 0, .int .u64 0, .bool false, .int .i64 0, .bool false, .int .i64 1, .int .i64 0, .int .u64 0, .bool false, .int .i64 0, .bool false, .int .i64 1, .int .i64 0, .int .u64 0, .bool false, .int .i64 0, .bool false, .int .i64 1]
def o31 : AObj := .cells [.int .i64 0, .int .i64 1, .int .i64 1, .int .i64 1, .int .i64 1, .int .i64 5, .int .i64 2, .ptr (.hp 20) 0, .int .i64 0, .int .i64 0, .ptr (.hp 4) 0, .ptr (.hp 5) 0, .ptr (.hp 6) 0, .ptr (.hp 8) 0, .ptr (.hp 13) 0, .int .u64 0, .int .i64 0, .int .i64 0, .int .i64 1, .nils]
def o32 : AObj := .cells [.int .i64 5, .int .i64 0, .int .u64 0, .bool false, .int .i64 0, .bool false, .int .i64 2, .int .i64 0, .int .u64 0, .bool false, .int .i64 0, .bool false, .int .i64 2, .int .i64 0, .int .u64 0, .bool false, .int .i64 0, .bool false, .int .i64 2, .int .i64 0, .int .u64 0, .bool false, .int .i64 0, .bool false, .int .i64 2, .int .i64 0, .int .u64 0, .bool false, .int .i64 0, .bool false, .int .i64 2, .int .i64 0, .int .u64 0, .bool false, .int .i64 0, .bool false, .int .i64 2, .int .i64 0, .int .u64 0, .bool false, .int .i64 0, .bool false, .int .i64 2, .int .i64 0, .int .u64 0, .bool false, .int .i64 0, .bool false, .int .i64 2]
def k104_0 : Known := ⟨[.sl false 1 [.int .u8 71, .int .u8 1, .int .u8 0]], ⟨[o0, o1, o1, .map [], o2, o3, o4, o5, o6, o7, o8, o9, o10, o11, o12, o13, o14, o13, o14, o15, o16], []⟩, none, .tup [.sl false 1 [.int .u8 197, .int .u8 0, .int .u8 3, .int .u8 71, .int .u8 1, .int .u8 0, .int .u8 247, .int .u8 242, .int .u8 89, .int .u8 184], .int .i64 0], ⟨[o0, o1, o1, .map [], o2, o3, o4, o5, o6, o7, o8, o9, o10, o11, o12, o13, o14, o13, o14, o15, o16], []⟩⟩
theorem k104_0_ok : callN Tryz.prog howD 60 104 k104_0.args k104_0.σ k104_0.ro = some (k104_0.v, k104_0.σ') := by kernel_rfl
def k104_1 : Known := ⟨[.sl false 1 [.int .u8 80, .int .u8 1, .int .u8 0]], ⟨[o17, o1, o1, .map [], o18, o19, o4, o5, o6, o7, o8, o9, o10, o20, o21, o13, o14, o13, o14, o15, o16, .map [], .map [], o22], [o23, o23, o24]⟩, none, .tup [.sl false 1 [.int .u8 197, .int .u8 0, .int .u8 3, .int .u8 80, .int .u8 1, .int .u8 0, .int .u8 2, .int .u8 71, .int .u8 48, .int .u8 161], .int .i64 0], ⟨[o17, o1, o1, .map [], o18, o19, o4, o5, o6, o7, o8, o9, o10, o20, o21, o13, o14, o13, o14, o15, o16, .map [], .map [], o22], [o23, o23, o24]⟩⟩
theorem k104_1_ok : callN Tryz.prog howD 60 104 k104_1.args k104_1.σ k104_1.ro = some (k104_1.v, k104_1.σ') := by kernel_rfl
noncomputable def how104 : FuncId → Option How := addH howD 104 (memoP (callN Tryz.prog howD 60 104) [k104_0, k104_1])
theorem how104_ok : HowOk Tryz.prog how104 := howD_ok.add (memo_ok hm howD_ok ⟨Tryz.f104, Tryz.func104, by kernel_rfl, by kernel_rfl⟩ (fun k hk => by
    simp only [List.mem_cons, List.not_mem_nil, or_false] at hk
    rcases hk with rfl | rfl
    · exact k104_0_ok
    · exact k104_1_ok))
def k194_0 : Known := ⟨[.ptr (.hp 20) 0, .sl false 1 [.int .u8 80, .int .u8 1, .int .u8 0]], ⟨[o17, o1, o1, .map [], o18, o19, o4, o5, o6, o7, o8, o9, o10, o20, o21, o13, o14, o13, o14, o15, o16, .map [], .map [], o22], [o23, o23, o24]⟩, none, .int .i64 0, ⟨[o25, o1, o1, .map [], o18, o19, o4, o5, o6, o7, o8, o9, o10, o20, o21, o13, o14, o13, o14, o15, o16, .map [], .map [], o22], [o23, o23, o24]⟩⟩
theorem k194_0_ok : callN Tryz.prog how104 60 194 k194_0.args k194_0.σ k194_0.ro = some (k194_0.v, k194_0.σ') := by kernel_rfl
noncomputable def how194 : FuncId → Option How := addH how104 194 (memoP (callN Tryz.prog how104 60 194) [k194_0])
theorem how194_ok : HowOk Tryz.prog how194 := how104_ok.add (memo_ok hm how104_ok ⟨Tryz.f194, Tryz.func194, by kernel_rfl, by kernel_rfl⟩ (fun k hk => by
    simp only [List.mem_cons, List.not_mem_nil, or_false] at hk
    rcases hk with rfl
    · exact k194_0_ok))
def k195_0 : Known := ⟨[.ptr (.hp 20) 0], ⟨[o25, o1, o1, .map [], o18, o19, o4, o5, o6, o7, o8, o9, o10, o20, o21, o13, o14, o13, o14, o15, o16, .map [], .map [], o22], [o23, o23, o24]⟩, none, .int .i64 0, ⟨[o26, o1, o1, .map [], o18, o19, o4, o5, o6, o7, o8, o9, o10, o20, o21, o13, o14, o13, o14, o15, o16, .map [], .map [], o22], [o23, o23, o24]⟩⟩
theorem k195_0_ok : callN Tryz.prog how194 60 195 k195_0.args k195_0.σ k195_0.ro = some (k195_0.v, k195_0.σ') := by kernel_rfl
noncomputable def how195 : FuncId → Option How := addH how194 195 (memoP (callN Tryz.prog how194 60 195) [k195_0])
theorem how195_ok : HowOk Tryz.prog how195 := how194_ok.add (memo_ok hm how194_ok ⟨Tryz.f195, Tryz.func195, by kernel_rfl, by kernel_rfl⟩ (fun k hk => by
    simp only [List.mem_cons, List.not_mem_nil, or_false] at hk
    rcases hk with rfl
    · exact k195_0_ok))
def k45_0 : Known := ⟨[.ptr (.hp 0) 0], ⟨[o0, o1, o1, .map [], o2, o3, o4, o5, o6, o7, o8, o9, o10, o11, o12], []⟩, none, .tup [.int .i64 0, .agg [.int .u64 0, .nils, .int .i64 0, .int .i64 0], .bool false, .int .i64 0], ⟨[o0, o1, o1, .map [], o2, o3, o4, o5, o6, o7, o8, o9, o10, o11, o12, o13, o14, o13, o14], []⟩⟩
theorem k45_0_ok : callN Tryz.prog how195 60 45 k45_0.args k45_0.σ k45_0.ro = some (k45_0.v, k45_0.σ') := by kernel_rfl
noncomputable def how45 : FuncId → Option How := addH how195 45 (memoP (callN Tryz.prog how195 60 45) [k45_0])
theorem how45_ok : HowOk Tryz.prog how45 := how195_ok.add (memo_ok hm how195_ok ⟨Tryz.f45, Tryz.func45, by kernel_rfl, by kernel_rfl⟩ (fun k hk => by
    simp only [List.mem_cons, List.not_mem_nil, or_false] at hk
    rcases hk with rfl
    · exact k45_0_ok))
def k47_0 : Known := ⟨[.ptr (.hp 20) 0], ⟨[o0, o1, o1, .map [], o2, o3, o4, o5, o6, o7, o8, o9, o10, o11, o12, o13, o14, o13, o14, o15, .cells [.ptr (.hp 0) 0, .int .i64 0, .int .u64 0, .bool false]], []⟩, none, .int .i64 0, ⟨[o17, o1, o1, .map [], o2, o3, o4, o5, o6, o7, o8, o9, o10, o11, o12, o13, o14, o13, o14, o15, o16], []⟩⟩
theorem k47_0_ok : callN Tryz.prog how45 60 47 k47_0.args k47_0.σ k47_0.ro = some (k47_0.v, k47_0.σ') := by kernel_rfl
noncomputable def how47 : FuncId → Option How := addH how45 47 (memoP (callN Tryz.prog how45 60 47) [k47_0])
theorem how47_ok : HowOk Tryz.prog how47 := how45_ok.add (memo_ok hm how45_ok ⟨Tryz.f47, Tryz.func47, by kernel_rfl, by kernel_rfl⟩ (fun k hk => by
    simp only [List.mem_cons, List.not_mem_nil, or_false] at hk
    rcases hk with rfl
    · exact k47_0_ok))
def k17_0 : Known := ⟨[.ptr (.hp 0) 0], ⟨[o0, o1, o1, .map [], o2, o3, o4, o5, o6, o7, o8, o9, o10, o11, o12], []⟩, none, .tup [.ptr (.hp 20) 0, .nils, .int .i64 0], ⟨[o17, o1, o1, .map [], o2, o3, o4, o5, o6, o7, o8, o9, o10, o11, o12, o13, o14, o13, o14, o15, o16], []⟩⟩
theorem k17_0_ok : callN Tryz.prog how47 60 17 k17_0.args k17_0.σ k17_0.ro = some (k17_0.v, k17_0.σ') := by kernel_rfl
noncomputable def how17 : FuncId → Option How := addH how47 17 (memoP (callN Tryz.prog how47 60 17) [k17_0])
theorem how17_ok : HowOk Tryz.prog how17 := how47_ok.add (memo_ok hm how47_ok ⟨Tryz.f17, Tryz.func17, by kernel_rfl, by kernel_rfl⟩ (fun k hk => by
    simp only [List.mem_cons, List.not_mem_nil, or_false] at hk
    rcases hk with rfl
    · exact k17_0_ok))
def k43_0 : Known := ⟨[.agg [.int .i64 1, .int .i64 1, .int .i64 1]], ⟨[o0, o1, o1, .map [], o2, o3, o4], []⟩, none, .ptr (.hp 8) 0, ⟨[o0, o1, o1, .map [], o2, o3, o4, o5, o6, o7, o8, o9, o10], []⟩⟩
theorem k43_0_ok : callN Tryz.prog how17 60 43 k43_0.args k43_0.σ k43_0.ro = some (k43_0.v, k43_0.σ') := by kernel_rfl
noncomputable def how43 : FuncId → Option How := addH how17 43 (memoP (callN Tryz.prog how17 60 43) [k43_0])
theorem how43_ok : HowOk Tryz.prog how43 := how17_ok.add (memo_ok hm how17_ok ⟨Tryz.f43, Tryz.func43, by kernel_rfl, by kernel_rfl⟩ (fun k hk => by
    simp only [List.mem_cons, List.not_mem_nil, or_false] at hk
    rcases hk with rfl
    · exact k43_0_ok))
def k44_0 : Known := ⟨[.int .i64 5], ⟨[o0, o1, o1, .map [], o2, o3, o4, o5, o6, o7, o8, o9, o10], []⟩, none, .ptr (.hp 13) 0, ⟨[o0, o1, o1, .map [], o2, o3, o4, o5, o6, o7, o8, o9, o10, o11], []⟩⟩
theorem k44_0_ok : callN Tryz.prog how43 60 44 k44_0.args k44_0.σ k44_0.ro = some (k44_0.v, k44_0.σ') := by kernel_rfl
noncomputable def how44 : FuncId → Option How := addH how43 44 (memoP (callN Tryz.prog how43 60 44) [k44_0])
theorem how44_ok : HowOk Tryz.prog how44 := how43_ok.add (memo_ok hm how43_ok ⟨Tryz.f44, Tryz.func44, by kernel_rfl, by kernel_rfl⟩ (fun k hk => by
    simp only [List.mem_cons, List.not_mem_nil, or_false] at hk
    rcases hk with rfl
    · exact k44_0_ok))
def k16_0 : Known := ⟨[.agg [.int .i64 0, .int .i64 1, .int .i64 1, .int .i64 1, .int .i64 1, .int .i64 5, .int .i64 2]], ⟨[o0, o1], []⟩, none, .ptr (.hp 14) 0, ⟨[o0, o1, o1, .map [], o2, o3, o4, o5, o6, o7, o8, o9, o10, o11, o12], []⟩⟩
theorem k16_0_ok : callN Tryz.prog how44 60 16 k16_0.args k16_0.σ k16_0.ro = some (k16_0.v, k16_0.σ') := by kernel_rfl
noncomputable def how16 : FuncId → Option How := addH how44 16 (memoP (callN Tryz.prog how44 60 16) [k16_0])
theorem how16_ok : HowOk Tryz.prog how16 := how44_ok.add (memo_ok hm how44_ok ⟨Tryz.f16, Tryz.func16, by kernel_rfl, by kernel_rfl⟩ (fun k hk => by
    simp only [List.mem_cons, List.not_mem_nil, or_false] at hk
    rcases hk with rfl
    · exact k16_0_ok))
def k4_0 : Known := ⟨[.ptr (.hp 0) 0, .agg [.int .i64 0, .int .i64 1, .int .i64 1, .int .i64 1, .int .i64 1, .int .i64 5, .int .i64 2]], ⟨[o0], []⟩, none, .tup [.ptr (.hp 14) 0, .int .i64 0], ⟨[o17, o1, o1, .map [], o2, o3, o4, o5, o6, o7, o8, o9, o10, o11, o21, o13, o14, o13, o14, o15, o16], []⟩⟩
theorem k4_0_ok : callN Tryz.prog how16 60 4 k4_0.args k4_0.σ k4_0.ro = some (k4_0.v, k4_0.σ') := by kernel_rfl
noncomputable def how4 : FuncId → Option How := addH how16 4 (memoP (callN Tryz.prog how16 60 4) [k4_0])
theorem how4_ok : HowOk Tryz.prog how4 := how16_ok.add (memo_ok hm how16_ok ⟨Tryz.f4, Tryz.func4, by kernel_rfl, by kernel_rfl⟩ (fun k hk => by
    simp only [List.mem_cons, List.not_mem_nil, or_false] at hk
    rcases hk with rfl
    · exact k4_0_ok))
def k135_0 : Known := ⟨[.ptr (.hp 14) 0, .sl false 1 [.int .u8 80, .int .u8 1, .int .u8 0]], ⟨[o17, o1, o1, .map [], o18, o19, o4, o5, o6, o7, o8, o9, o10, o20, o21, o13, o14, o13, o14, o15, o16, .map [], .map [], o22], [o23, o23, o24]⟩, none, .tup [], ⟨[o26, o1, o1, .map [], o18, o19, o4, o5, o6, o7, o8, o9, o10, o20, o27, o13, o14, o13, o14, o15, o16, .map [], .map [], o22], [o23, o23, o24]⟩⟩
theorem k135_0_ok : callN Tryz.prog how4 60 135 k135_0.args k135_0.σ k135_0.ro = some (k135_0.v, k135_0.σ') := by kernel_rfl
noncomputable def how135 : FuncId → Option How := addH how4 135 (memoP (callN Tryz.prog how4 60 135) [k135_0])
theorem how135_ok : HowOk Tryz.prog how135 := how4_ok.add (memo_ok hm how4_ok ⟨Tryz.f135, Tryz.func135, by kernel_rfl, by kernel_rfl⟩ (fun k hk => by
    simp only [List.mem_cons, List.not_mem_nil, or_false] at hk
    rcases hk with rfl
    · exact k135_0_ok))
def k71_0 : Known := ⟨[.ptr (.hp 14) 0, .agg [.int .u64 1, .int .i64 0], .int .i64 0], ⟨[o17, o1, o1, .map [], o2, o19, o4, o5, o6, o7, o8, o9, o10, o20, o21, o13, o14, o13, o14, o15, o16, .map [], .map []], [o23]⟩, none, .tup [.nils, .int .i64 0], ⟨[o26, o1, o1, .map [], o18, o19, o4, o5, o6, o7, o8, o9, o10, o20, o27, o13, o14, o13, o14, o15, o16, .map [], .map [], o22], [o23]⟩⟩
theorem k71_0_ok : callN Tryz.prog how135 60 71 k71_0.args k71_0.σ k71_0.ro = some (k71_0.v, k71_0.σ') := by kernel_rfl
noncomputable def how71 : FuncId → Option How := addH how135 71 (memoP (callN Tryz.prog how135 60 71) [k71_0])
theorem how71_ok : HowOk Tryz.prog how71 := how135_ok.add (memo_ok hm how135_ok ⟨Tryz.f71, Tryz.func71, by kernel_rfl, by kernel_rfl⟩ (fun k hk => by
    simp only [List.mem_cons, List.not_mem_nil, or_false] at hk
    rcases hk with rfl
    · exact k71_0_ok))
def k24_0 : Known := ⟨[.ptr (.hp 14) 0], ⟨[o17, o1, o1, .map [], o2, o3, o4, o5, o6, o7, o8, o9, o10, o20, o28, o13, o14, o13, o14, o15, o16], []⟩, none, .tup [], ⟨[o26, o1, o1, .map [], o18, o29, o4, o5, o6, o7, o8, o9, o10, o20, o27, o13, o14, o13, o14, o15, o16, .map [], .map [], o22, .cells [.map (.hp 22)]], []⟩⟩
theorem k24_0_ok : callN Tryz.prog how71 60 24 k24_0.args k24_0.σ k24_0.ro = some (k24_0.v, k24_0.σ') := by kernel_rfl
noncomputable def how24 : FuncId → Option How := addH how71 24 (memoP (callN Tryz.prog how71 60 24) [k24_0])
theorem how24_ok : HowOk Tryz.prog how24 := how71_ok.add (memo_ok hm how71_ok ⟨Tryz.f24, Tryz.func24, by kernel_rfl, by kernel_rfl⟩ (fun k hk => by
    simp only [List.mem_cons, List.not_mem_nil, or_false] at hk
    rcases hk with rfl
    · exact k24_0_ok))
def k67_0 : Known := ⟨[.ptr (.hp 14) 0], ⟨[o26, o1, o1, .map [], o18, o29, o4, o5, o6, o7, o8, o9, o10, o20, o27, o13, o14, o13, o14, o15, o16, .map [], .map [], o22], [o23]⟩, none, .tup [], ⟨[o26, o1, o1, .map [], o18, o29, o4, o5, o6, o7, o8, o9, o10, o20, o27, o13, o14, o13, o14, o15, o16, .map [], .map [], o22, .cells [.map (.hp 22)]], [o23]⟩⟩
theorem k67_0_ok : callN Tryz.prog how24 60 67 k67_0.args k67_0.σ k67_0.ro = some (k67_0.v, k67_0.σ') := by kernel_rfl
noncomputable def how67 : FuncId → Option How := addH how24 67 (memoP (callN Tryz.prog how24 60 67) [k67_0])
theorem how67_ok : HowOk Tryz.prog how67 := how24_ok.add (memo_ok hm how24_ok ⟨Tryz.f67, Tryz.func67, by kernel_rfl, by kernel_rfl⟩ (fun k hk => by
    simp only [List.mem_cons, List.not_mem_nil, or_false] at hk
    rcases hk with rfl
    · exact k67_0_ok))
def k5_0 : Known := ⟨[.ptr (.hp 14) 0], ⟨[o17, o1, o1, .map [], o2, o3, o4, o5, o6, o7, o8, o9, o10, o11, o21, o13, o14, o13, o14, o15, o16], []⟩, none, .nils, ⟨[o17, o1, o1, .map [], o2, o3, o4, o5, o6, o7, o8, o9, o10, o30, o31, o13, o14, o13, o14, o15, o16], []⟩⟩
theorem k5_0_ok : callN Tryz.prog how67 60 5 k5_0.args k5_0.σ k5_0.ro = some (k5_0.v, k5_0.σ') := by kernel_rfl
def k5_1 : Known := ⟨[.ptr (.hp 14) 0], ⟨[o17, o1, o1, .map [], o2, o3, o4, o5, o6, o7, o8, o9, o10, o30, o31, o13, o14, o13, o14, o15, o16], []⟩, none, .nils, ⟨[o17, o1, o1, .map [], o2, o3, o4, o5, o6, o7, o8, o9, o10, o32, o28, o13, o14, o13, o14, o15, o16], []⟩⟩
theorem k5_1_ok : callN Tryz.prog how67 60 5 k5_1.args k5_1.σ k5_1.ro = some (k5_1.v, k5_1.σ') := by kernel_rfl
def k5_2 : Known := ⟨[.ptr (.hp 14) 0], ⟨[o17, o1, o1, .map [], o2, o3, o4, o5, o6, o7, o8, o9, o10, o32, o28, o13, o14, o13, o14, o15, o16], []⟩, none, .nils, ⟨[o26, o1, o1, .map [], o18, o29, o4, o5, o6, o7, o8, o9, o10, o20, o27, o13, o14, o13, o14, o15, o16, .map [], .map [], o22, .cells [.map (.hp 22)]], []⟩⟩
theorem k5_2_ok : callN Tryz.prog how67 60 5 k5_2.args k5_2.σ k5_2.ro = some (k5_2.v, k5_2.σ') := by kernel_rfl
noncomputable def how5 : FuncId → Option How := addH how67 5 (memoP (callN Tryz.prog how67 60 5) [k5_0, k5_1, k5_2])
theorem how5_ok : HowOk Tryz.prog how5 := how67_ok.add (memo_ok hm how67_ok ⟨Tryz.f5, Tryz.func5, by kernel_rfl, by kernel_rfl⟩ (fun k hk => by
    simp only [List.mem_cons, List.not_mem_nil, or_false] at hk
    rcases hk with rfl | rfl | rfl
    · exact k5_0_ok
    · exact k5_1_ok
    · exact k5_2_ok))
theorem run : (callN Tryz.prog how5 60 14 [] ⟨[], []⟩ none).map (fun x => x.1) = some (.bool true) := by kernel_rfl
end Aw
theorem awake_ok : PrimOk Tryz.prog 14 trueP := by
  obtain ⟨⟨v, σ⟩, h1, h2⟩ := Option.map_eq_some_iff.1 Aw.run
  simp only at h2
  subst h2
  exact true_ok Aw.hm Aw.how5_ok ⟨Tryz.f14, Tryz.func14, by kernel_rfl, by kernel_rfl⟩ h1
end Go.Proofs.YthikbholekngfaaGreatDoor
