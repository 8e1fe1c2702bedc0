/-
  Texts of the logic and of the layer,in one module (part 4).
-/
import Derived.Test.YtmmmeebiobjnbaaGreatR3
import Derived.Test.YtmmmeebiobjnbaaGreatRows
import Derived.KernelRfl
import Derived.Shelf.Lay
import Derived.Shelf.Sort.Plain
import Derived.Shelf.Slices.In.SortNone
import Derived.Ground.NamesProg
import Derived.WalkKit
set_option linter.unusedVariables false
set_option linter.unusedSimpArgs false
set_option linter.unnecessarySimpa false
namespace Go.Proofs.YtmmmeebiobjnbaaGreat
open Go Go.Ab
def yI2 : List (Nat × TI) := [(1,⟨false,1,8,[.nilFunc]⟩),
  (2,⟨false,1,8,[.int .i64 0]⟩),
  (3,⟨false,1,8,[.int .i64 0]⟩),
  (4,⟨false,1,1,[.bool false]⟩),
  (5,⟨false,1,1,[.int .u8 0]⟩),
  (6,⟨false,1,1,[.int .u8 0]⟩),
  (7,⟨true,4,24,[.int .i64 0,.int .i64 0,.bool false,.int .u8 0]⟩),
  (8,⟨true,4,24,[.int .i64 0,.int .i64 0,.bool false,.int .u8 0]⟩),
  (9,⟨false,1,16,[.string ⟨#[]⟩]⟩),
  (10,⟨false,1,16,[.string ⟨#[]⟩]⟩),
  (11,⟨false,1,16,[.string ⟨#[]⟩]⟩),
  (12,⟨false,1,8,[.int .u64 0]⟩),
  (13,⟨true,2,24,[.string ⟨#[]⟩,.int .u64 0]⟩),
  (14,⟨true,2,24,[.string ⟨#[]⟩,.int .u64 0]⟩),
  (15,⟨false,1,8,[.pointer none]⟩),
  (16,⟨false,1,8,[.pointer none]⟩),
  (17,⟨false,1,8,[.pointer none]⟩),
  (18,⟨true,1,8,[.pointer none]⟩),
  (19,⟨true,1,8,[.pointer none]⟩),
  (21,⟨false,1,4,[.int .i32 0]⟩),
  (22,⟨false,1,24,[.slice none 0 0]⟩),
  (23,⟨false,1,24,[.slice none 0 0]⟩),
  (24,⟨false,1,24,[.slice none 0 0]⟩),
  (25,⟨false,1,24,[.slice none 0 0]⟩),
  (26,⟨true,4,96,[.slice none 0 0,.slice none 0 0,.slice none 0 0,.slice none 0 0]⟩),
  (27,⟨true,4,96,[.slice none 0 0,.slice none 0 0,.slice none 0 0,.slice none 0 0]⟩),
  (28,⟨true,4,32,[.int .i64 0,.int .i64 0,.int .i64 0,.int .i64 0]⟩),
  (29,⟨true,4,32,[.int .i64 0,.int .i64 0,.int .i64 0,.int .i64 0]⟩),
  (30,⟨false,1,24,[.slice none 0 0]⟩),
  (31,⟨false,1,8,[.nilFunc]⟩),
  (32,⟨false,1,8,[.nilFunc]⟩),
  (33,⟨false,1,8,[.nilFunc]⟩),
  (34,⟨false,1,8,[.nilFunc]⟩),
  (35,⟨false,1,8,[.pointer none]⟩),
  (36,⟨false,1,8,[.int .i64 0]⟩),
  (38,⟨false,1,8,[.nilFunc]⟩),
  (39,⟨false,1,24,[.slice none 0 0]⟩),
  (40,⟨false,1,24,[.slice none 0 0]⟩),
  (41,⟨false,1,24,[.slice none 0 0]⟩),
  (42,⟨false,1,8,[.nilFunc]⟩),
  (44,⟨false,1,8,[.nilFunc]⟩),
  (45,⟨false,1,8,[.nilFunc]⟩),
  (46,⟨true,5,56,[.int .i64 0,.int .i64 0,.int .i64 0,.int .i64 0,.slice none 0 0]⟩),
  (47,⟨true,5,56,[.int .i64 0,.int .i64 0,.int .i64 0,.int .i64 0,.slice none 0 0]⟩),
  (48,⟨true,4,32,[.int .i64 0,.int .i64 0,.int .i64 0,.int .i64 0]⟩),
  (49,⟨true,4,32,[.int .i64 0,.int .i64 0,.int .i64 0,.int .i64 0]⟩),
  (50,⟨true,10,96,[.bool false,.int .i64 0,.int .i64 0,.int .i64 0,.int .i64 0,.slice none 0 0,.int .i64 0,.int .i64 0,.int .i64 0,.int .i64 0]⟩),
  (51,⟨true,10,96,[.bool false,.int .i64 0,.int .i64 0,.int .i64 0,.int .i64 0,.slice none 0 0,.int .i64 0,.int .i64 0,.int .i64 0,.int .i64 0]⟩),
  (52,⟨false,1,8,[.nilFunc]⟩),
  (53,⟨false,1,8,[.nilFunc]⟩),
  (54,⟨false,1,8,[.nilFunc]⟩),
  (55,⟨false,1,8,[.nilFunc]⟩),
  (56,⟨false,1,8,[.nilFunc]⟩),
  (58,⟨false,1,8,[.nilFunc]⟩),
  (59,⟨false,1,8,[.nilFunc]⟩),
  (60,⟨true,3,24,[.int .i64 0,.int .i64 0,.int .i64 0]⟩),
  (61,⟨true,3,24,[.int .i64 0,.int .i64 0,.int .i64 0]⟩),
  (62,⟨false,1,8,[.nilFunc]⟩),
  (63,⟨true,4,80,[.slice none 0 0,.slice none 0 0,.int .i64 0,.slice none 0 0]⟩),
  (64,⟨true,4,80,[.slice none 0 0,.slice none 0 0,.int .i64 0,.slice none 0 0]⟩),
  (65,⟨false,1,24,[.slice none 0 0]⟩),
  (66,⟨false,1,8,[.nilFunc]⟩),
  (67,⟨false,1,8,[.nilFunc]⟩),
  (68,⟨false,1,8,[.nilFunc]⟩),
  (69,⟨false,1,8,[.nilFunc]⟩),
  (70,⟨false,1,24,[.slice none 0 0]⟩),
  (71,⟨false,1,8,[.nilFunc]⟩),
  (72,⟨false,1,8,[.nilFunc]⟩),
  (73,⟨false,1,8,[.nilFunc]⟩),
  (74,⟨false,1,8,[.pointer none]⟩),
  (76,⟨false,1,8,[.nilFunc]⟩),
  (77,⟨false,1,8,[.nilFunc]⟩),
  (78,⟨true,3,24,[.int .i64 0,.int .i64 0,.bool false]⟩),
  (79,⟨true,3,24,[.int .i64 0,.int .i64 0,.bool false]⟩),
  (80,⟨false,1,8,[.nilFunc]⟩),
  (81,⟨false,1,24,[.slice none 0 0]⟩),
  (82,⟨true,6,128,[.slice none 0 0,.slice none 0 0,.pointer none,.slice none 0 0,.slice none 0 0,.slice none 0 0]⟩),
  (83,⟨true,6,128,[.slice none 0 0,.slice none 0 0,.pointer none,.slice none 0 0,.slice none 0 0,.slice none 0 0]⟩),
  (84,⟨true,6,48,[.int .i64 0,.int .i64 0,.int .i64 0,.int .i64 0,.pointer none,.int .i64 0]⟩),
  (85,⟨true,6,48,[.int .i64 0,.int .i64 0,.int .i64 0,.int .i64 0,.pointer none,.int .i64 0]⟩),
  (86,⟨false,1,8,[.nilFunc]⟩),
  (87,⟨false,1,8,[.nilFunc]⟩),
  (88,⟨false,1,8,[.nilFunc]⟩),
  (90,⟨false,1,8,[.nilFunc]⟩),
  (91,⟨false,1,8,[.nilFunc]⟩),
  (92,⟨false,1,8,[.nilFunc]⟩),
  (93,⟨false,1,8,[.nilFunc]⟩),
  (94,⟨false,1,8,[.nilFunc]⟩),
  (95,⟨true,2,24,[.string ⟨#[]⟩,.int .i64 0]⟩),
  (96,⟨true,2,24,[.string ⟨#[]⟩,.int .i64 0]⟩),
  (97,⟨false,1,8,[.nilFunc]⟩),
  (98,⟨false,1,24,[.slice none 0 0]⟩),
  (99,⟨true,8,128,[.int .i64 0,.int .i64 0,.int .i64 0,.int .i64 0,.slice none 0 0,.slice none 0 0,.slice none 0 0,.slice none 0 0]⟩),
  (100,⟨true,8,128,[.int .i64 0,.int .i64 0,.int .i64 0,.int .i64 0,.slice none 0 0,.slice none 0 0,.slice none 0 0,.slice none 0 0]⟩),
  (101,⟨true,2,16,[.int .i64 0,.int .i64 0]⟩),
  (102,⟨true,2,16,[.int .i64 0,.int .i64 0]⟩),
  (103,⟨false,1,24,[.slice none 0 0]⟩),
  (104,⟨true,3,56,[.slice none 0 0,.int .i64 0,.slice none 0 0]⟩),
  (105,⟨true,3,56,[.slice none 0 0,.int .i64 0,.slice none 0 0]⟩),
  (106,⟨false,1,24,[.slice none 0 0]⟩),
  (107,⟨true,2,48,[.slice none 0 0,.slice none 0 0]⟩),
  (108,⟨true,2,48,[.slice none 0 0,.slice none 0 0]⟩),
  (109,⟨false,1,8,[.nilFunc]⟩),
  (110,⟨false,1,8,[.nilFunc]⟩),
  (112,⟨false,1,8,[.nilFunc]⟩),
  (113,⟨false,1,8,[.nilFunc]⟩),
  (114,⟨false,1,8,[.nilFunc]⟩),
  (115,⟨false,1,8,[.nilFunc]⟩),
  (116,⟨false,1,8,[.nilFunc]⟩),
  (118,⟨false,1,8,[.nilFunc]⟩),
  (119,⟨false,1,8,[.nilFunc]⟩),
  (121,⟨false,1,8,[.nilFunc]⟩),
  (122,⟨false,1,8,[.nilFunc]⟩),
  (123,⟨false,1,8,[.nilFunc]⟩),
  (124,⟨false,1,8,[.nilFunc]⟩),
  (125,⟨false,1,8,[.nilFunc]⟩),
  (126,⟨false,1,8,[.nilFunc]⟩),
  (127,⟨false,1,8,[.nilFunc]⟩),
  (128,⟨false,1,8,[.nilFunc]⟩),
  (129,⟨false,1,8,[.nilFunc]⟩),
  (130,⟨false,1,8,[.nilFunc]⟩),
  (132,⟨false,1,8,[.nilFunc]⟩),
  (134,⟨false,1,8,[.nilFunc]⟩),
  (136,⟨false,1,8,[.nilFunc]⟩),
  (137,⟨false,1,8,[.nilFunc]⟩),
  (139,⟨false,1,8,[.int .u64 0]⟩),
  (142,⟨false,1,8,[.nilFunc]⟩),
  (143,⟨false,1,8,[.nilFunc]⟩),
  (144,⟨false,1,8,[.nilFunc]⟩),
  (145,⟨false,1,8,[.nilFunc]⟩),
  (146,⟨false,1,8,[.nilFunc]⟩),
  (147,⟨false,1,8,[.nilFunc]⟩),
  (149,⟨false,1,8,[.nilFunc]⟩),
  (150,⟨false,1,8,[.nilFunc]⟩),
  (152,⟨false,1,8,[.nilFunc]⟩),
  (153,⟨false,1,8,[.nilFunc]⟩),
  (154,⟨false,1,8,[.nilFunc]⟩),
  (155,⟨false,1,8,[.nilFunc]⟩),
  (156,⟨false,1,8,[.nilFunc]⟩),
  (157,⟨false,1,8,[.nilFunc]⟩),
  (158,⟨false,1,8,[.nilFunc]⟩),
  (161,⟨false,1,8,[.nilFunc]⟩),
  (165,⟨false,1,8,[.nilFunc]⟩),
  (167,⟨false,1,8,[.nilFunc]⟩),
  (168,⟨false,1,8,[.nilFunc]⟩),
  (169,⟨false,1,8,[.nilFunc]⟩),
  (170,⟨false,1,8,[.int .i64 0]⟩),
  (173,⟨false,1,8,[.nilFunc]⟩),
  (174,⟨false,1,8,[.nilFunc]⟩),
  (175,⟨false,1,8,[.nilFunc]⟩),
  (176,⟨false,1,8,[.nilFunc]⟩),
  (177,⟨false,1,8,[.nilFunc]⟩),
  (178,⟨false,1,4,[.int .u32 0]⟩),
  (180,⟨false,1,8,[.int .u64 0]⟩),
  (181,⟨false,1,8,[.nilFunc]⟩),
  (182,⟨false,1,8,[.nilFunc]⟩),
  (189,⟨false,1,8,[.nilFunc]⟩),
  (191,⟨false,1,8,[.nilFunc]⟩),
  (192,⟨false,1,8,[.nilFunc]⟩),
  (194,⟨false,1,8,[.nilFunc]⟩),
  (195,⟨false,1,8,[.nilFunc]⟩),
  (196,⟨false,1,8,[.nilFunc]⟩),
  (197,⟨false,1,8,[.int .u64 0]⟩),
  (198,⟨false,1,8,[.nilFunc]⟩),
  (203,⟨false,1,8,[.nilFunc]⟩),
  (206,⟨false,1,8,[.nilFunc]⟩),
  (207,⟨false,1,8,[.nilFunc]⟩),
  (208,⟨false,1,8,[.nilFunc]⟩),
  (209,⟨false,1,8,[.nilFunc]⟩),
  (210,⟨false,1,8,[.pointer none]⟩),
  (217,⟨true,4,40,[.pointer none,.pointer none,.pointer none,.string ⟨#[]⟩]⟩),
  (218,⟨true,4,40,[.pointer none,.pointer none,.pointer none,.string ⟨#[]⟩]⟩),
  (223,⟨false,1,1,[.int .u8 0]⟩),
  (224,⟨false,1,1,[.int .u8 0]⟩),
  (225,⟨false,1,8,[.nilFunc]⟩),
  (226,⟨false,1,8,[.pointer none]⟩),
  (227,⟨false,1,4,[.int .i32 0]⟩),
  (228,⟨false,1,4,[.int .i32 0]⟩),
  (229,⟨true,11,48,[.int .u64 0,.int .u64 0,.int .u32 0,.int .u8 0,.int .u8 0,.int .u8 0,.int .u8 0,.nilFunc,.pointer none,.int .i32 0,.int .i32 0]⟩),
  (230,⟨true,11,48,[.int .u64 0,.int .u64 0,.int .u32 0,.int .u8 0,.int .u8 0,.int .u8 0,.int .u8 0,.nilFunc,.pointer none,.int .i32 0,.int .i32 0]⟩)]
set_option maxRecDepth 8000 in
theorem zS9 : ML (fun t i => ∃ inf z,Tryz.prog.info? t = some inf ∧ inf.size = i.size ∧ inf.bytes = i.bytes ∧ inf.zero = some z ∧ z.cells.toList = i.zero ∧ i.zero.length = i.size ∧ BR Tryz.prog t = some i.agg) yI2 :=
  ⟨tq (.nilFunc),tq (.int .i64 0),tq (.int .i64 0),tq (.bool false),tq (.int .u8 0),tq (.int .u8 0),tq (.agg #[.int .i64 0,.int .i64 0,.bool false,.int .u8 0]),tq (.agg #[.int .i64 0,.int .i64 0,.bool false,.int .u8 0]),tq (.string ⟨#[]⟩),tq (.string ⟨#[]⟩),tq (.string ⟨#[]⟩),tq (.int .u64 0),tq (.agg #[.string ⟨#[]⟩,.int .u64 0]),tq (.agg #[.string ⟨#[]⟩,.int .u64 0]),tq (.pointer none),tq (.pointer none),tq (.pointer none),tq (.agg #[.pointer none]),tq (.agg #[.pointer none]),tq (.int .i32 0),tq (.slice none 0 0),tq (.slice none 0 0),tq (.slice none 0 0),tq (.slice none 0 0),tq (.agg #[.slice none 0 0,.slice none 0 0,.slice none 0 0,.slice none 0 0]),tq (.agg #[.slice none 0 0,.slice none 0 0,.slice none 0 0,.slice none 0 0]),tq (.agg #[.int .i64 0,.int .i64 0,.int .i64 0,.int .i64 0]),tq (.agg #[.int .i64 0,.int .i64 0,.int .i64 0,.int .i64 0]),tq (.slice none 0 0),tq (.nilFunc),tq (.nilFunc),tq (.nilFunc),tq (.nilFunc),tq (.pointer none),tq (.int .i64 0),tq (.nilFunc),tq (.slice none 0 0),tq (.slice none 0 0),tq (.slice none 0 0),tq (.nilFunc),tq (.nilFunc),tq (.nilFunc),tq (.agg #[.int .i64 0,.int .i64 0,.int .i64 0,.int .i64 0,.slice none 0 0]),tq (.agg #[.int .i64 0,.int .i64 0,.int .i64 0,.int .i64 0,.slice none 0 0]),tq (.agg #[.int .i64 0,.int .i64 0,.int .i64 0,.int .i64 0]),tq (.agg #[.int .i64 0,.int .i64 0,.int .i64 0,.int .i64 0]),tq (.agg #[.bool false,.int .i64 0,.int .i64 0,.int .i64 0,.int .i64 0,.slice none 0 0,.int .i64 0,.int .i64 0,.int .i64 0,.int .i64 0]),tq (.agg #[.bool false,.int .i64 0,.int .i64 0,.int .i64 0,.int .i64 0,.slice none 0 0,.int .i64 0,.int .i64 0,.int .i64 0,.int .i64 0]),tq (.nilFunc),tq (.nilFunc),tq (.nilFunc),tq (.nilFunc),tq (.nilFunc),tq (.nilFunc),tq (.nilFunc),tq (.agg #[.int .i64 0,.int .i64 0,.int .i64 0]),tq (.agg #[.int .i64 0,.int .i64 0,.int .i64 0]),tq (.nilFunc),tq (.agg #[.slice none 0 0,.slice none 0 0,.int .i64 0,.slice none 0 0]),tq (.agg #[.slice none 0 0,.slice none 0 0,.int .i64 0,.slice none 0 0]),tq (.slice none 0 0),tq (.nilFunc),tq (.nilFunc),tq (.nilFunc),tq (.nilFunc),tq (.slice none 0 0),tq (.nilFunc),tq (.nilFunc),tq (.nilFunc),tq (.pointer none),tq (.nilFunc),tq (.nilFunc),tq (.agg #[.int .i64 0,.int .i64 0,.bool false]),tq (.agg #[.int .i64 0,.int .i64 0,.bool false]),tq (.nilFunc),tq (.slice none 0 0),tq (.agg #[.slice none 0 0,.slice none 0 0,.pointer none,.slice none 0 0,.slice none 0 0,.slice none 0 0]),tq (.agg #[.slice none 0 0,.slice none 0 0,.pointer none,.slice none 0 0,.slice none 0 0,.slice none 0 0]),tq (.agg #[.int .i64 0,.int .i64 0,.int .i64 0,.int .i64 0,.pointer none,.int .i64 0]),tq (.agg #[.int .i64 0,.int .i64 0,.int .i64 0,.int .i64 0,.pointer none,.int .i64 0]),tq (.nilFunc),tq (.nilFunc),tq (.nilFunc),tq (.nilFunc),tq (.nilFunc),tq (.nilFunc),tq (.nilFunc),tq (.nilFunc),tq (.agg #[.string ⟨#[]⟩,.int .i64 0]),tq (.agg #[.string ⟨#[]⟩,.int .i64 0]),tq (.nilFunc),tq (.slice none 0 0),tq (.agg #[.int .i64 0,.int .i64 0,.int .i64 0,.int .i64 0,.slice none 0 0,.slice none 0 0,.slice none 0 0,.slice none 0 0]),tq (.agg #[.int .i64 0,.int .i64 0,.int .i64 0,.int .i64 0,.slice none 0 0,.slice none 0 0,.slice none 0 0,.slice none 0 0]),tq (.agg #[.int .i64 0,.int .i64 0]),tq (.agg #[.int .i64 0,.int .i64 0]),tq (.slice none 0 0),tq (.agg #[.slice none 0 0,.int .i64 0,.slice none 0 0]),tq (.agg #[.slice none 0 0,.int .i64 0,.slice none 0 0]),tq (.slice none 0 0),tq (.agg #[.slice none 0 0,.slice none 0 0]),tq (.agg #[.slice none 0 0,.slice none 0 0]),tq (.nilFunc),tq (.nilFunc),tq (.nilFunc),tq (.nilFunc),tq (.nilFunc),tq (.nilFunc),tq (.nilFunc),tq (.nilFunc),tq (.nilFunc),tq (.nilFunc),tq (.nilFunc),tq (.nilFunc),tq (.nilFunc),tq (.nilFunc),tq (.nilFunc),tq (.nilFunc),tq (.nilFunc),tq (.nilFunc),tq (.nilFunc),tq (.nilFunc),tq (.nilFunc),tq (.nilFunc),tq (.nilFunc),tq (.int .u64 0),tq (.nilFunc),tq (.nilFunc),tq (.nilFunc),tq (.nilFunc),tq (.nilFunc),tq (.nilFunc),tq (.nilFunc),tq (.nilFunc),tq (.nilFunc),tq (.nilFunc),tq (.nilFunc),tq (.nilFunc),tq (.nilFunc),tq (.nilFunc),tq (.nilFunc),tq (.nilFunc),tq (.nilFunc),tq (.nilFunc),tq (.nilFunc),tq (.nilFunc),tq (.int .i64 0),tq (.nilFunc),tq (.nilFunc),tq (.nilFunc),tq (.nilFunc),tq (.nilFunc),tq (.int .u32 0),tq (.int .u64 0),tq (.nilFunc),tq (.nilFunc),tq (.nilFunc),tq (.nilFunc),tq (.nilFunc),tq (.nilFunc),tq (.nilFunc),tq (.nilFunc),tq (.int .u64 0),tq (.nilFunc),tq (.nilFunc),tq (.nilFunc),tq (.nilFunc),tq (.nilFunc),tq (.nilFunc),tq (.pointer none),tq (.agg #[.pointer none,.pointer none,.pointer none,.string ⟨#[]⟩]),tq (.agg #[.pointer none,.pointer none,.pointer none,.string ⟨#[]⟩]),tq (.int .u8 0),tq (.int .u8 0),tq (.nilFunc),tq (.pointer none),tq (.int .i32 0),tq (.int .i32 0),tq (.agg #[.int .u64 0,.int .u64 0,.int .u32 0,.int .u8 0,.int .u8 0,.int .u8 0,.int .u8 0,.nilFunc,.pointer none,.int .i32 0,.int .i32 0]),tq (.agg #[.int .u64 0,.int .u64 0,.int .u32 0,.int .u8 0,.int .u8 0,.int .u8 0,.int .u8 0,.nilFunc,.pointer none,.int .i32 0,.int .i32 0]),
   trivial⟩
def zR6 : List (Nat × Nat) := [(22,96),(23,79),(24,3),(25,61),(30,51),(39,24),(40,4),(41,49),(65,64),(70,47),(81,85),(98,108),(103,102),(106,105)]
theorem ZL : ML (fun t e => Tryz.prog.underlying t = some (.slice e)) zR6 := ⟨kq,kq,kq,kq,kq,kq,kq,kq,kq,kq,kq,kq,kq,kq,trivial⟩
def yD7 : List (Nat × (Nat × Nat)) := [(219,(0,16))]
theorem zP7 : ML (fun t p => Tryz.prog.underlying t = some (.array p.1 p.2)) yD7 := ⟨kq,trivial⟩
def PU : List (Nat × List (Nat × Nat)) := [(7,[(0,1),(1,1),(2,1),(3,1)]),(8,[(0,1),(1,1),(2,1),(3,1)]),(13,[(0,1),(1,1)]),(14,[(0,1),(1,1)]),(18,[(0,1)]),(19,[(0,1)]),(26,[(0,1),(1,1),(2,1),(3,1)]),(27,[(0,1),(1,1),(2,1),(3,1)]),(28,[(0,1),(1,1),(2,1),(3,1)]),(29,[(0,1),(1,1),(2,1),(3,1)]),(46,[(0,1),(1,1),(2,1),(3,1),(4,1)]),(47,[(0,1),(1,1),(2,1),(3,1),(4,1)]),(48,[(0,1),(1,1),(2,1),(3,1)]),(49,[(0,1),(1,1),(2,1),(3,1)]),(50,[(0,1),(1,5),(6,4)]),(51,[(0,1),(1,5),(6,4)]),(60,[(0,1),(1,1),(2,1)]),(61,[(0,1),(1,1),(2,1)]),(63,[(0,1),(1,1),(2,1),(3,1)]),(64,[(0,1),(1,1),(2,1),(3,1)]),(78,[(0,1),(1,1),(2,1)]),(79,[(0,1),(1,1),(2,1)]),(82,[(0,1),(1,1),(2,1),(3,1),(4,1),(5,1)]),(83,[(0,1),(1,1),(2,1),(3,1),(4,1),(5,1)]),(84,[(0,4),(4,1),(5,1)]),(85,[(0,4),(4,1),(5,1)]),(95,[(0,1),(1,1)]),(96,[(0,1),(1,1)]),(99,[(0,4),(4,1),(5,1),(6,1),(7,1)]),(100,[(0,4),(4,1),(5,1),(6,1),(7,1)]),(101,[(0,1),(1,1)]),(102,[(0,1),(1,1)]),(104,[(0,1),(1,1),(2,1)]),(105,[(0,1),(1,1),(2,1)]),(107,[(0,1),(1,1)]),(108,[(0,1),(1,1)]),(217,[(0,1),(1,1),(2,1),(3,1)]),(218,[(0,1),(1,1),(2,1),(3,1)]),(220,[(0,0)]),(221,[(0,0)]),(229,[(0,1),(1,1),(2,1),(3,1),(4,1),(5,1),(6,1),(7,1),(8,1),(9,1),(10,1)]),(230,[(0,1),(1,1),(2,1),(3,1),(4,1),(5,1),(6,1),(7,1),(8,1),(9,1),(10,1)])]
theorem NF : ML (fun t l => FX Tryz.prog t = some l) PU := ⟨kq,kq,kq,kq,kq,kq,kq,kq,kq,kq,kq,kq,kq,kq,kq,kq,kq,kq,kq,kq,kq,kq,kq,kq,kq,kq,kq,kq,kq,kq,kq,kq,kq,kq,kq,kq,kq,kq,kq,kq,kq,kq,trivial⟩
def ZH : List ((Nat × Nat) × Nat) := [((7,0),0),((7,1),1),((7,2),2),((7,3),3),((8,0),0),((8,1),1),((8,2),2),((8,3),3),((13,0),0),((13,1),1),((14,0),0),((14,1),1),((18,0),0),((19,0),0),((26,0),0),((26,1),1),((26,2),2),((26,3),3),((27,0),0),((27,1),1),((27,2),2),((27,3),3),((28,0),0),((28,1),1),((28,2),2),((28,3),3),((29,0),0),((29,1),1),((29,2),2),((29,3),3),((46,0),0),((46,1),1),((46,2),2),((46,3),3),((46,4),4),((47,0),0),((47,1),1),((47,2),2),((47,3),3),((47,4),4),((48,0),0),((48,1),1),((48,2),2),((48,3),3),((49,0),0),((49,1),1),((49,2),2),((49,3),3),((50,0),0),((50,1),1),((50,2),6),((51,0),0),((51,1),1),((51,2),6),((60,0),0),((60,1),1),((60,2),2),((61,0),0),((61,1),1),((61,2),2),((63,0),0),((63,1),1),((63,2),2),((63,3),3),((64,0),0),((64,1),1),((64,2),2),((64,3),3),((78,0),0),((78,1),1),((78,2),2),((79,0),0),((79,1),1),((79,2),2),((82,0),0),((82,1),1),((82,2),2),((82,3),3),((82,4),4),((82,5),5),((83,0),0),((83,1),1),((83,2),2),((83,3),3),((83,4),4),((83,5),5),((84,0),0),((84,1),4),((84,2),5),((85,0),0),((85,1),4),((85,2),5),((95,0),0),((95,1),1),((96,0),0),((96,1),1),((99,0),0),((99,1),4),((99,2),5),((99,3),6),((99,4),7),((100,0),0),((100,1),4),((100,2),5),((100,3),6),((100,4),7),((101,0),0),((101,1),1),((102,0),0),((102,1),1),((104,0),0),((104,1),1),((104,2),2),((105,0),0),((105,1),1),((105,2),2),((107,0),0),((107,1),1),((108,0),0),((108,1),1),((217,0),0),((217,1),1),((217,2),2),((217,3),3),((218,0),0),((218,1),1),((218,2),2),((218,3),3),((229,0),0),((229,1),1),((229,2),2),((229,3),3),((229,4),4),((229,5),5),((229,6),6),((229,7),7),((229,8),8),((229,9),9),((229,10),10),((230,0),0),((230,1),1),((230,2),2),((230,3),3),((230,4),4),((230,5),5),((230,6),6),((230,7),7),((230,8),8),((230,9),9),((230,10),10)]
theorem UF : ML (fun (tf : Nat × Nat) o => ∃ fs fd inf,Tryz.prog.underlying tf.1 = some (.struct fs) ∧ fs[tf.2]? = some fd ∧ fd.offset = o ∧ Tryz.prog.info? fd.type = some inf ∧ inf.size ≠ 0) ZH :=
  ⟨fq,fq,fq,fq,fq,fq,fq,fq,fq,fq,fq,fq,fq,fq,fq,fq,fq,fq,fq,fq,fq,fq,fq,fq,fq,fq,fq,fq,fq,fq,fq,fq,fq,fq,fq,fq,fq,fq,fq,fq,fq,fq,fq,fq,fq,fq,fq,fq,fq,qI (n := 4) (by kernel_rfl),qI (n := 3) (by kernel_rfl),fq,qI (n := 4) (by kernel_rfl),qI (n := 3) (by kernel_rfl),fq,fq,fq,fq,fq,fq,fq,fq,fq,fq,fq,fq,fq,fq,fq,fq,fq,fq,fq,fq,fq,fq,fq,fq,fq,fq,fq,fq,fq,fq,fq,fq,qI (n := 3) (by kernel_rfl),fq,fq,qI (n := 3) (by kernel_rfl),fq,fq,fq,fq,fq,fq,qI (n := 3) (by kernel_rfl),fq,fq,fq,fq,qI (n := 3) (by kernel_rfl),fq,fq,fq,fq,fq,fq,fq,fq,fq,fq,fq,fq,fq,fq,fq,fq,fq,fq,fq,fq,fq,fq,fq,fq,fq,fq,fq,fq,fq,fq,fq,fq,fq,fq,fq,fq,fq,fq,fq,fq,fq,fq,fq,fq,fq,fq,fq,fq,
   trivial⟩
theorem cW : Tryz.prog.follows .mixedOrders = true := by kernel_rfl
def T : oW Tryz.prog where
  ti := AN yI2
  tiOk := fun _ _ h => zG zS9 h
  elem := AN zR6
  elemOk := fun _ _ h => zG ZL h
  field := fun t f => GH ZH t f
  fieldOk := fun _ _ _ h => ED UF h
  arr := AN yD7
  arrOk := fun _ _ _ h => zG zP7 h
  places := AN PU
  placesOk := fun _ _ h => zG NF h
abbrev ints (l : List Int) : List (List AV) := l.map fun n => [AV.i n]
theorem eB (l : List Int) : ∀ e,e ∈ ints l → e.length = 1 := by intro e he;obtain ⟨n,_,rfl⟩ := bB.1 he;rfl
theorem kX {l : List Int} {k : Nat} (h : k < l.length) : (ints l)[k]? = some [AV.i l[k]] := by simp [h]
abbrev BX := Int × Int × Int
abbrev LT := Int × Int × Bool
abbrev KD := ByteArray × Int
abbrev fP (l : List BX) : List (List AV) := l.map fun b => [AV.i b.1,AV.i b.2.1,AV.i b.2.2]
abbrev kU (l : List LT) : List (List AV) := l.map fun b => [AV.i b.1,AV.i b.2.1,AV.b b.2.2]
abbrev jN (l : List KD) : List (List AV) := l.map fun b => [AV.v (.string b.1),AV.i b.2]
theorem rB (l : List BX) : ∀ e,e ∈ fP l → e.length = 3 := by intro e he;obtain ⟨n,_,rfl⟩ := bB.1 he;rfl
theorem zF (l : List LT) : ∀ e,e ∈ kU l → e.length = 3 := by intro e he;obtain ⟨n,_,rfl⟩ := bB.1 he;rfl
theorem vM (l : List KD) : ∀ e,e ∈ jN l → e.length = 2 := by intro e he;obtain ⟨n,_,rfl⟩ := bB.1 he;rfl
theorem EV {l : List BX} {k : Nat} (h : k < l.length) : (fP l)[k]? = some [AV.i l[k].1,AV.i l[k].2.1,AV.i l[k].2.2] := by simp [h]
theorem I4 {l : List LT} {k : Nat} (h : k < l.length) : (kU l)[k]? = some [AV.i l[k].1,AV.i l[k].2.1,AV.b l[k].2.2] := by simp [h]
theorem B2 {l : List KD} {k : Nat} (h : k < l.length) : (jN l)[k]? = some [AV.v (.string l[k].1),AV.i l[k].2] := by simp [h]
abbrev qA (m st er sl : Int) : AV := .agg [.i m,.i st,.i er,.i sl]
abbrev WC (k a b n : Int) (ids : List Int) : AV := .agg [.i k,.i a,.i b,.i n,.rowE (ints ids) 1]
theorem nD {a b : Bool} (h : a = b) : AV.b a = AV.b b := by rw [h]
def iW (n f t : Int) : Bool := decide (f ≤ n) && decide (n ≤ t)
def xE : List Int → Int → Int → Int
  | [],_,_ => -1
  | x :: r,v,k => if v = x then k else xE r v (k + 1)
theorem KP : ∀ (l : List Int) (v k : Int), 0 ≤ k → (0 ≤ xE l v k ↔ v ∈ l)
  | [],v,k,_ => by simp [xE]
  | x :: r,v,k,hk => by
    simp only [xE];split
    · rename_i e;subst e;simp [hk]
    · rename_i e;rw [KP r v (k + 1) (by omega)]
      simp [e]
theorem TU {l : List Int} {v : Int} {k : Nat} (h : k < l.length) : xE (l.drop k) v k = if v = l[k] then (k : Int) else xE (l.drop (k + 1)) v ((k + 1 : Nat) : Int) := by
  rw [aT h];simp [xE]
theorem AD : ∀ (n : Nat) (l : List Int), l.length = n → (∀ i : Nat, i < n → (i : Int) ∈ l) → ∀ x, x ∈ l → 0 ≤ x ∧ x < n
  | 0,l,hl,_,x,hx => by
    have : l = [] := bZ hl;subst this;simp at hx
  | n + 1,l,hl,hm,x,hx => by
    have h1 := hm n (by omega)
    have h2 : (l.erase (n : Int)).length = n := by rw [lG h1];omega
    have h3 := AD n (l.erase (n : Int)) h2 (fun i hi => (lY (by omega)).2 (hm i (by omega)))
    by_cases e : x = n
    · omega
    · have := h3 x ((lY e).2 hx);omega
structure zZ6 (ks : List KD) (ls : List LT) (ps : List Int) (bs : List BX) : Prop where
  n1 : 1 ≤ ps.length
  n8 : ps.length ≤ 8
  len : ps.length = bs.length
  k10 : ks.length ≤ 10
  l10 : ls.length ≤ 10
  k : ∀ (i : Nat) (h : i < ks.length),0 ≤ ks[i].2 ∧ ks[i].2 ≤ 1048576
  l : ∀ (i : Nat) (h : i < ls.length),0 ≤ ls[i].1 ∧ ls[i].1 < ks.length
  p : ∀ (i : Nat) (h : i < ps.length),0 ≤ ps[i] ∧ ps[i] < ps.length
  b : ∀ (i : Nat) (h : i < bs.length),-1 ≤ bs[i].1 ∧ bs[i].1 < ls.length ∧ 0 ≤ bs[i].2.1 ∧ bs[i].2.1 ≤ 20000 ∧ (bs[i].1 = -1 → bs[i].2.1 = 0) ∧ 0 ≤ bs[i].2.2 ∧ bs[i].2.2 ≤ 1073741824
def nO (m st er sl : Int) : Prop := 0 ≤ m ∧ m ≤ 1048576 ∧ 0 ≤ st ∧ st ≤ 1048576 ∧ 0 ≤ er ∧ er ≤ 1048576 ∧ 0 ≤ sl ∧ sl ≤ 1048576
def qP (ks : List KD) (ls : List LT) (lot : Int) : Int := if lot < 0 then 0 else (ks.getD (ls.getD lot.toNat (0,0,false)).1.toNat (⟨#[]⟩,0)).2
theorem zE7 {ks : List KD} {ls : List LT} {ps : List Int} {bs : List BX} (f : zZ6 ks ls ps bs) {lot : Int} (h : lot < ls.length) : 0 ≤ qP ks ls lot ∧ qP ks ls lot ≤ 1048576 := by
  unfold qP;split
  · omega
  · have hl : lot.toNat < ls.length := by omega
    have h1 := f.l lot.toNat hl;have hk : ls[lot.toNat].1.toNat < ks.length := by omega
    have h2 := f.k _ hk;simp only [List.getD,aA hl,mQ,aA hk];exact h2
def zR9 (st id k : Int) (ids : List Int) : Int := if k = 0 then (if (ids.length : Int) - (if id ∈ ids then 1 else 0) > st then 0 else if id ∈ ids then 0 else 1) else 0
def UQ (st er sl id ct w k n : Int) (ids : List Int) : Bool :=
  if k = 0 then decide ((ids.length : Int) - (if id ∈ ids then 1 else 0) ≤ st)
  else if k = 1 then iW w (n - er) (n + er)
  else if k = 2 then decide (n - sl ≤ ct)
  else if k = 3 then decide (n = ct)
  else if k = 5 then decide (n = id)
  else true
def UO (sl ct k n done : Int) : Bool := if k = 2 then iW done 0 ct && iW done (n - sl) (n + sl) else if k = 4 then decide (done = 0) || decide (done = 1) else decide (done = 0)
def T0 (l : List Int) (n : Int) (i : Nat) : Prop := 0 ≤ l.getD i 0 ∧ l.getD i 0 ≤ n - 1 ∧ (0 < i → l.getD (i - 1) 0 < l.getD i 0)
open Classical in
noncomputable def HJ (l : List Int) (n : Int) : Bool := decide (∀ i,i < l.length → T0 l n i)
end Go.Proofs.YtmmmeebiobjnbaaGreat
namespace Go.Proofs.YtmmmeebiobjnbaaGreat
open Go Go.Ab
attribute [local irreducible] VC AW cE aU
set_option maxHeartbeats 4000000
theorem sJ (n f t : Int) : aU Tryz.prog 40 [.i n,.i f,.i t] [] (.b (iW n f t)) [] := by
  refine bX T Tryz.func40 rfl rfl rfl rfl ?_
  (repeat' (first|refine wS ?_|refine wR ?_|(refine rg 0 (aV ?_))|(refine rg 1 (dK rfl (vV (gV rfl rfl) (mV ?_)));refine bT rfl rfl ?_ ?_<;>(intro hb;rw [hb];(try simp only [nm] at hb);try (exfalso;omega));(all_goals first|(refine gT (mW rfl (gT (mW rfl (gT (vV (iC rfl rfl) ?_))))))|(iterate 3 refine gF ?_));(all_goals (refine pW rfl (aV ?_))))|refine nZ ?_));all_goals
    refine dH (.inl rfl) rfl (nD ?_);simp [iW];try omega
theorem xC (l : List Int) (v : Int) (hl : l.length ≤ 9223372036854775807) : aU Tryz.prog 59 [.rowE (ints l) 1,.i v] [] (.i (xE l v 0)) [] := by
  have hlen : (ints l).length = l.length := by simp
  refine bX T Tryz.func59 rfl rfl rfl rfl ?_
  (repeat' (first|refine wS ?_|refine wB ?_|(refine rg 0 (aV ?_))|(refine rg 1 (mW rfl (qW T rfl (mV ?_))))|refine nZ ?_));refine dC (X := {k : Nat // k ≤ l.length ∧ xE l v 0 = xE (l.drop k) v k}) (fun k => [(0,.rowE (ints l) 1),(1,.i v),(7,.i (ints l).length),(8,.i k.1)]) (fun _ => []) (fun k => l.length - k.1) ⟨0,by simp,rfl⟩ (gM []) ?_
  rintro ⟨k,hk,hf⟩;dsimp only;by_cases hlt : k < l.length
  · have hd := TU (v := v) hlt
    repeat' (first|refine wS ?_|refine wB ?_|refine wK ?_|refine wR ?_|(refine wC rfl ?_ ?_<;>(intro hb;(try simp only [nm] at hb);try (exfalso;omega)))|(refine rg 2 (vV (aJ rfl rfl) ?_))|(refine rg 3 (mW rfl (aV ?_)))|(refine rg 4 (dK rfl (mW rfl (vV (ix T rfl (by omega) (eB l) (kX (k := k) (by omega))) (lW T rfl (vV (eX rfl rfl) ?_))))))|(refine rg 5 (mW rfl (aV ?_)))|(refine rg 6 (vV (cJ rfl rfl (by omega) (by omega)) (mV ?_)))|refine nZ ?_)
    · refine dH (.inl rfl) rfl ?_;rw [hf,hd,if_pos hb];rfl
    · refine ⟨⟨k + 1,by omega,?_⟩,by dsimp only;omega,gM []⟩
      rw [hf,hd,if_neg hb]
  · (repeat' (first|refine wS ?_|refine wR ?_|refine wE ?_|(refine wC rfl (fun hb => ?_) (fun hb => ?_) <;> (((try simp only [nm] at hb);try (exfalso;omega))))|(refine rg 2 (vV (aJ rfl rfl) ?_))|(refine rg 7 (aV ?_))|(refine nZ ?_)));refine dH (.inl rfl) rfl ?_
    rw [hf,cT (by omega)];rfl
theorem G0 (l : List Int) (v : Int) (hl : l.length ≤ 9223372036854775807) : aU Tryz.prog 42 [.rowE (ints l) 1,.i v] [] (.b (decide (v ∈ l))) [] := by
  refine bX T Tryz.func42 rfl rfl rfl rfl ?_
  (repeat' (first|refine wS ?_|refine wR ?_|(refine rg 0 (aV ?_))|(refine rg 1 (dK rfl (vV (kC (xC l v hl)) (vV (gV rfl rfl) (aV ?_)))))|refine nZ ?_));refine dH (.inl rfl) rfl (nD ?_)
  rw [FH];simp only [decide_eq_true_eq];exact KP l v 0 (by omega)
theorem zS7 {ks : List KD} {ls : List LT} {ps : List Int} {bs : List BX} (f : zZ6 ks ls ps bs) {lot : Int} (h : lot < ls.length) : aU Tryz.prog 43 [.rowE (jN ks) 2,.rowE (kU ls) 3,.i lot] [] (.i (qP ks ls lot)) [] := by
  by_cases h0 : lot < 0
  · refine bX T Tryz.func43 rfl rfl rfl rfl ?_
    (repeat' (first|refine wS ?_|refine wR ?_|(refine wC rfl ?_ ?_<;>(intro hb;(try simp only [nm] at hb);try (exfalso;omega)))|(refine rg 0 (aV ?_))|(refine rg 1 (mW rfl (vV (aJ rfl rfl) ?_)))|(refine rg 2 (aV ?_))|refine nZ ?_));refine dH (.inl rfl) rfl ?_
    unfold qP;rw [if_pos h0];rfl
  · have hl : lot.toNat < ls.length := by omega
    have h1 := f.l lot.toNat hl;have hk : ls[lot.toNat].1.toNat < ks.length := by omega
    have hkl : (jN ks).length = ks.length := by simp
    have hll : (kU ls).length = ls.length := by simp
    have e : qP ks ls lot = ks[ls[lot.toNat].1.toNat].2 := by
      unfold qP;rw [if_neg h0];simp only [List.getD,aA hl,mQ,aA hk]
    refine bX T Tryz.func43 rfl rfl rfl rfl ?_
    (repeat' (first|refine wS ?_|refine wK ?_|refine wR ?_|(refine wC rfl ?_ ?_<;>(intro hb;(try simp only [nm] at hb);try (exfalso;omega)))|(refine rg 0 (aV ?_))|(refine rg 1 (mW rfl (vV (aJ rfl rfl) ?_)))|(refine rg 3 (dK rfl (mW rfl (vV (ix T rfl (by omega) (zF ls) (I4 hl)) (iP T rfl (vV (ix T rfl (by omega) (vM ks) (B2 hk)) (iP T rfl (aV ?_))))))))|refine nZ ?_));refine dH (.inl rfl) rfl ?_
    rw [e];rfl
theorem I7 (l : List Int) : (ints l).flatten.all AV.one = true := by
  rw [bH];intro x hx;obtain ⟨e,he,hx⟩ := List.mem_flatten.1 hx;obtain ⟨p,_,rfl⟩ := bB.1 he;simp at hx;subst hx;rfl
end Go.Proofs.YtmmmeebiobjnbaaGreat
namespace Go.Proofs.YtmmmeebiobjnbaaGreat
open Go Go.Ab
attribute [local irreducible] VC AW cE aU
abbrev mT (f t : Int) : AV := .agg [.i f,.i t]
def zK (f t : Int) : Bool := decide (max f 0 < min t 20001)
def GX (f t : Int) : Int := if zK f t then max f 0 else 0
def cutT (f t : Int) : Int := if zK f t then min t 20001 else 0
theorem BI (f t : Int) : (zK f t = true ∧ GX f t = max f 0 ∧ cutT f t = min t 20001 ∧ max f 0 < min t 20001) ∨ (zK f t = false ∧ GX f t = 0 ∧ cutT f t = 0 ∧ min t 20001 ≤ max f 0) := by
  by_cases h : max f 0 < min t 20001
  · left;simp [zK,GX,cutT,h]
  · right;simp only [zK,GX,cutT,h];simp;omega
theorem WB {a b c d : Int} {e e' : Bool} (h1 : a = c) (h2 : b = d) (h3 : e = e') : AV.tup [mT a b,.b e] = AV.tup [mT c d,.b e'] := by rw [h1,h2,h3]
theorem FU (f t : Int) : aU Tryz.prog 127 [mT f t] [] (.tup [mT (GX f t) (cutT f t),.b (zK f t)]) [] := by
  refine bX T Tryz.func127 rfl rfl rfl rfl ?_
  (repeat' (first|(first|(refine eS ?_)|(refine qL ?_)|(refine uH ?_)|(refine rC ?_))|(first|(refine vV (by first|exact dJ rfl|exact bG T rfl rfl rfl|exact aN T rfl rfl rfl rfl|exact gV rfl rfl|exact F7 rfl rfl|exact NV rfl rfl|exact eR T rfl rfl rfl rfl) ?_)|(refine bA T rfl rfl rfl rfl rfl rfl (by decide) rfl ?_)|(refine iF ?_)|(refine cH (by first|exact cK T rfl|exact cY rfl rfl) rfl ?_))|((refine sE rfl (fun hb=>?_) (fun hb=>?_)<;>(try simp only [nm] at hb)))));all_goals
    refine dH (.inl rfl) rfl ?_;rcases BI f t with ⟨h1,h2,h3,h4⟩ | ⟨h1,h2,h3,h4⟩
    all_goals (first | (exfalso;omega) | (rw [h1,h2,h3];refine WB ?_ ?_ ?_ <;> first | rfl | omega))
def vQ (f t n : Int) : Bool := decide (f ≤ n) && decide (n < t)
theorem zH1 (f t n : Int) : aU Tryz.prog 90 [mT f t,.i n] [] (.b (vQ f t n)) [] := by
  refine bX T Tryz.func90 rfl rfl rfl rfl ?_
  (repeat' (first|(first|(refine eS ?_)|(refine qL ?_)|(refine rC ?_))|(first|(refine vV (by first|exact bR rfl|exact dJ rfl|exact bG T rfl rfl rfl|exact aN T rfl rfl rfl rfl|exact kM rfl rfl|exact jV rfl rfl|exact aJ rfl rfl|exact iC rfl rfl) ?_)|(refine iF ?_)|(refine CW rfl rfl ?_ rfl)|(refine CX rfl rfl ?_ rfl)|(refine sK rfl rfl (fun hb=>?_) (fun hb=>?_) rfl<;>(rw [hb];(try simp only [nm] at hb)))|(refine cH (cY rfl rfl) rfl ?_))));all_goals
    refine dH (.inl rfl) rfl (nD ?_);simp [vQ];try omega
theorem zK8 (a b c d : Int) : aU Tryz.prog 88 [mT a b,mT c d] [] (.tup [mT (GX (max a c) (min b d)) (cutT (max a c) (min b d)),.b (zK (max a c) (min b d))]) [] := by
  refine bX T Tryz.func88 rfl rfl rfl rfl ?_
  (repeat' (first|(first|(refine eS ?_)|(refine qL ?_)|(refine rC ?_))|(first|(refine vV (by first|exact dJ rfl|exact bG T rfl rfl rfl|exact aN T rfl rfl rfl rfl|exact jQ rfl rfl|exact F7 rfl rfl|exact NV rfl rfl|exact eR T rfl rfl rfl rfl|exact fU rfl rfl (FU _ _) rfl rfl rfl) ?_)|(refine bA T rfl rfl rfl rfl rfl rfl (by decide) rfl ?_)|(refine iF ?_)|(refine cH (by first|exact cK T rfl|exact cY rfl rfl) rfl ?_))));refine rQ
theorem zH2 : aU Tryz.prog 126 [] [] (mT 0 20001) [] := by
  refine bX T Tryz.func126 rfl rfl rfl rfl ?_
  (repeat' (first|(first|(refine eS ?_)|(refine qL ?_)|(refine rC ?_))|(first|(refine vV (by exact eR T rfl rfl rfl rfl) ?_)|(refine bA T rfl rfl rfl rfl rfl rfl (by decide) rfl ?_)|(refine iF ?_)|(refine cH (cK T rfl) rfl ?_))));refine rQ
def vR (l : List Int) : Bool := l.all fun n => decide (0 ≤ n) && decide (n ≤ 1099511627776)
theorem NW (l : List Int) (k : Nat) (h : k < l.length) : vR (l.drop k) = (decide (0 ≤ l[k]) && decide (l[k] ≤ 1099511627776) && vR (l.drop (k + 1))) := by
  rw [aT h];rfl
theorem I0 (l : List Int) (hm : l.length ≤ 1000) : aU Tryz.prog 125 [.rowE (ints l) 1] [] (.b (vR l)) [] := by
  refine bX T Tryz.func125 rfl rfl rfl rfl ?_
  (repeat' (first|(first|(refine eS ?_)|(refine qL ?_)|(refine vW ?_))|(first|(refine vV (by first|exact bR rfl|exact dJ rfl|exact lM T rfl rfl) ?_)|(refine iF ?_))));refine dC (X := {k : Nat // k ≤ (ints l).length ∧ vR l = vR (l.drop k)}) (fun k => [(5,.rowE (ints l) 1),(6,.i (ints l).length),(7,.i k.1)]) (fun _ => []) (fun k => (ints l).length - k.1) ⟨0,by simp,rfl⟩ (gM []) ?_
  rintro ⟨k,hk,hf⟩;dsimp only;have hlen : (ints l).length = l.length := by simp
  repeat' (first|(first|(refine eS ?_)|(refine qL ?_)|(refine vW ?_)|(refine uH ?_)|(refine rC ?_)|(refine RC ?_))|(first|(refine vV (by first|exact dJ rfl|exact aJ rfl rfl) ?_)|(refine iF ?_))|((refine sE rfl (fun hb=>?_) (fun hb=>?_)<;>(try simp only [nm] at hb))))
  · have hlt : k < l.length := by omega
    have hs := NW l k hlt;refine yI (J4 T rfl rfl rfl rfl rfl (by omega) (eB l) (kX hlt)) rfl ?_
    (repeat' (first|(first|(refine eS ?_)|(refine qL ?_)|(refine uH ?_)|(refine rC ?_))|(first|(refine vV (by first|exact bR rfl|exact dJ rfl|exact aN T rfl rfl rfl rfl|exact kM rfl rfl|exact jV rfl rfl|exact cJ rfl rfl (by omega) (by omega)|exact aJ rfl rfl|exact fB rfl rfl) ?_)|(refine iF ?_)|(refine CW rfl rfl ?_ rfl)|(refine CX rfl rfl ?_ rfl)|(refine sK rfl rfl (fun hb=>?_) (fun hb=>?_) rfl<;>(rw [hb];(try simp only [nm] at hb))))|(first|(refine wT ?_)|(refine sE rfl (fun hb=>?_) (fun hb=>?_)<;>(try simp only [nm] at hb)))));all_goals first
      | (refine dH (.inl rfl) rfl (nD ?_);rw [hf,hs];simp;omega)
      | (refine ⟨⟨k + 1,by omega,?_⟩,by simp;omega,gM []⟩;rw [hf,hs];simp;omega)
  · refine dH (.inl rfl) rfl (nD ?_);rw [hf,cT (by omega)];rfl
theorem ZD {a b : Int} (h : 0 ≤ a ∧ a ≤ 1099511627776 ∧ 0 ≤ b ∧ b ≤ 1099511627776) : vR [a,b] = true := by simp [vR];omega
theorem ZF {a b : Int} (h : ¬ (0 ≤ a ∧ a ≤ 1099511627776 ∧ 0 ≤ b ∧ b ≤ 1099511627776)) : vR [a,b] = false := by
  rw [← eO];simp [vR];omega
theorem ZC {a b c d : Int} (h : 0 ≤ a ∧ a ≤ 1099511627776 ∧ 0 ≤ b ∧ b ≤ 1099511627776 ∧ 0 ≤ c ∧ c ≤ 1099511627776 ∧ 0 ≤ d ∧ d ≤ 1099511627776) : vR [a,b,c,d] = true := by simp [vR];omega
theorem ZE {a b c d : Int} (h : ¬ (0 ≤ a ∧ a ≤ 1099511627776 ∧ 0 ≤ b ∧ b ≤ 1099511627776 ∧ 0 ≤ c ∧ c ≤ 1099511627776 ∧ 0 ≤ d ∧ d ≤ 1099511627776)) : vR [a,b,c,d] = false := by
  rw [← eO];simp [vR];omega
theorem zM7 {a b : Int} (h : 0 ≤ a ∧ a ≤ 1099511627776 ∧ 0 ≤ b ∧ b ≤ 1099511627776) : aU Tryz.prog 125 [.rowE (ints [a,b]) 1] [] (.b true) [] := ZD h ▸ I0 [a,b] (by simp)
theorem zM9 {a b : Int} (h : ¬ (0 ≤ a ∧ a ≤ 1099511627776 ∧ 0 ≤ b ∧ b ≤ 1099511627776)) : aU Tryz.prog 125 [.rowE (ints [a,b]) 1] [] (.b false) [] := ZF h ▸ I0 [a,b] (by simp)
theorem GR {a b c d : Int} (h : 0 ≤ a ∧ a ≤ 1099511627776 ∧ 0 ≤ b ∧ b ≤ 1099511627776 ∧ 0 ≤ c ∧ c ≤ 1099511627776 ∧ 0 ≤ d ∧ d ≤ 1099511627776) : aU Tryz.prog 125 [.rowE (ints [a,b,c,d]) 1] [] (.b true) [] := ZC h ▸ I0 [a,b,c,d] (by simp)
theorem zM8 {a b c d : Int} (h : ¬ (0 ≤ a ∧ a ≤ 1099511627776 ∧ 0 ≤ b ∧ b ≤ 1099511627776 ∧ 0 ≤ c ∧ c ≤ 1099511627776 ∧ 0 ≤ d ∧ d ≤ 1099511627776)) : aU Tryz.prog 125 [.rowE (ints [a,b,c,d]) 1] [] (.b false) [] := ZE h ▸ I0 [a,b,c,d] (by simp)
theorem SQ (f t n s : Int) (hf : 0 ≤ f ∧ f ≤ 20001 ∧ 0 ≤ t ∧ t ≤ 20001) (h : 0 ≤ n ∧ n ≤ 1099511627776 ∧ 0 ≤ s ∧ s ≤ 1099511627776) : aU Tryz.prog 89 [mT f t,.i n,.i s] [] (.tup [mT (GX (f - n - s) (t - max (n - s) 0)) (cutT (f - n - s) (t - max (n - s) 0)),.b (zK (f - n - s) (t - max (n - s) 0))]) [] := by
  refine bX T Tryz.func89 rfl rfl rfl rfl ?_
  (repeat' (first|(first|(refine eS ?_)|(refine qL ?_)|(refine uH ?_)|(refine rC ?_))|(first|(refine vV (by first|exact bR rfl|exact dJ rfl|exact bG T rfl rfl rfl|exact aN T rfl rfl rfl rfl|exact cX rfl rfl (by omega) (by omega)|exact eM rfl|exact jQ rfl rfl|exact F7 rfl rfl|exact eR T rfl rfl rfl rfl|exact fU rfl rfl (FU _ _) rfl rfl rfl|exact eW rfl rfl (zM7 h) (by ((repeat (first|exact .nil|exact .v _|refine .cons ?_ ?_|refine .sl rfl (by simp) ?_));done)) rfl rfl) ?_)|(refine bA T rfl rfl rfl rfl rfl rfl (by decide) rfl ?_)|(refine iF ?_)|(refine cH (by first|exact cK T rfl|exact cY rfl rfl|exact bD T rfl rfl (by decide) (by decide) rfl rfl rfl) rfl ?_))|((refine wU ?_))));exact rQ
theorem NG (f t n s : Int) (h : ¬ (0 ≤ n ∧ n ≤ 1099511627776 ∧ 0 ≤ s ∧ s ≤ 1099511627776)) : aU Tryz.prog 89 [mT f t,.i n,.i s] [] (.tup [mT 0 0,.b false]) [] := by
  refine bX T Tryz.func89 rfl rfl rfl rfl ?_
  (repeat' (first|(first|(refine eS ?_)|(refine qL ?_)|(refine rC ?_))|(first|(refine vV (by first|exact bR rfl|exact dJ rfl|exact eM rfl|exact eR T rfl rfl rfl rfl|exact eW rfl rfl (zM9 h) (by ((repeat (first|exact .nil|exact .v _|refine .cons ?_ ?_|refine .sl rfl (by simp) ?_));done)) rfl rfl) ?_)|(refine bA T rfl rfl rfl rfl rfl rfl (by decide) rfl ?_)|(refine iF ?_)|(refine cH (by first|exact cK T rfl|exact cY rfl rfl|exact bD T rfl rfl (by decide) (by decide) rfl rfl rfl) rfl ?_))|((refine wT ?_))));exact rQ
def GS (a b c d : Int) : Prop := 0 ≤ a ∧ a ≤ 1099511627776 ∧ 0 ≤ b ∧ b ≤ 1099511627776 ∧ 0 ≤ c ∧ c ≤ 1099511627776 ∧ 0 ≤ d ∧ d ≤ 1099511627776
theorem MR (t u w e : Int) (h : ¬ GS t u w e) : aU Tryz.prog 87 [.i t,.i u,.i w,.i e] [] (.tup [mT 0 0,.b false]) [] := by
  refine bX T Tryz.func87 rfl rfl rfl rfl ?_
  (repeat' (first|(first|(refine eS ?_)|(refine qL ?_)|(refine rC ?_))|(first|(refine vV (by first|exact bR rfl|exact dJ rfl|exact eM rfl|exact eR T rfl rfl rfl rfl|exact eW rfl rfl (zM8 h) (by ((repeat (first|exact .nil|exact .v _|refine .cons ?_ ?_|refine .sl rfl (by simp) ?_));done)) rfl rfl) ?_)|(refine bA T rfl rfl rfl rfl rfl rfl (by decide) rfl ?_)|(refine iF ?_)|(refine cH (by first|exact cK T rfl|exact bD T rfl rfl (by decide) (by decide) rfl rfl rfl) rfl ?_))|((refine wT ?_))));exact rQ
theorem IB (t u w e : Int) (h : GS t u w e) (h1 : w + e - t < 0 ∨ u = 0 ∧ 0 < w - e - t) : aU Tryz.prog 87 [.i t,.i u,.i w,.i e] [] (.tup [mT 0 0,.b false]) [] := by
  have h' := h;unfold GS at h';refine bX T Tryz.func87 rfl rfl rfl rfl ?_
  (repeat' (first|(first|(refine eS ?_)|(refine qL ?_)|(refine vW ?_)|(refine uH ?_)|(refine rC ?_))|(first|(refine vV (by first|exact bR rfl|exact dJ rfl|exact kM rfl rfl|exact jV rfl rfl|exact cJ rfl rfl (by omega) (by omega)|exact cX rfl rfl (by omega) (by omega)|exact aJ rfl rfl|exact fB rfl rfl|exact eX rfl rfl|exact eM rfl|exact eR T rfl rfl rfl rfl|exact eW rfl rfl (GR h) (by ((repeat (first|exact .nil|exact .v _|refine .cons ?_ ?_|refine .sl rfl (by simp) ?_));done)) rfl rfl) ?_)|(refine bA T rfl rfl rfl rfl rfl rfl (by decide) rfl ?_)|(refine iF ?_)|(refine CW rfl rfl ?_ rfl)|(refine CX rfl rfl ?_ rfl)|(refine PA rfl rfl ?_ rfl)|(refine sK rfl rfl (fun hb=>?_) (fun hb=>?_) rfl<;>(rw [hb];(try simp only [nm] at hb)))|(refine cH (by first|exact cK T rfl|exact bD T rfl rfl (by decide) (by decide) rfl rfl rfl) rfl ?_))|(first|(refine wT ?_)|(refine wU ?_)|(refine sE rfl (fun hb=>?_) (fun hb=>?_)<;>(try simp only [nm] at hb)))));all_goals first | (exfalso;omega) | exact rQ | skip
theorem IC (t u w e : Int) (h : GS t u w e) (h1 : 0 ≤ w + e - t) (h2 : u = 0) (h3 : w - e - t ≤ 0) : aU Tryz.prog 87 [.i t,.i u,.i w,.i e] [] (.tup [mT 0 20001,.b true]) [] := by
  have h' := h;unfold GS at h';refine bX T Tryz.func87 rfl rfl rfl rfl ?_
  (repeat' (first|(first|(refine eS ?_)|(refine qL ?_)|(refine vW ?_)|(refine uH ?_)|(refine rC ?_))|(first|(refine vV (by first|exact bR rfl|exact dJ rfl|exact kM rfl rfl|exact jV rfl rfl|exact cJ rfl rfl (by omega) (by omega)|exact cX rfl rfl (by omega) (by omega)|exact aJ rfl rfl|exact fB rfl rfl|exact eX rfl rfl|exact eM rfl|exact eR T rfl rfl rfl rfl|exact eW rfl rfl (GR h) (by ((repeat (first|exact .nil|exact .v _|refine .cons ?_ ?_|refine .sl rfl (by simp) ?_));done)) rfl rfl|exact kC (zH2)) ?_)|(refine bA T rfl rfl rfl rfl rfl rfl (by decide) rfl ?_)|(refine iF ?_)|(refine CW rfl rfl ?_ rfl)|(refine CX rfl rfl ?_ rfl)|(refine PA rfl rfl ?_ rfl)|(refine sK rfl rfl (fun hb=>?_) (fun hb=>?_) rfl<;>(rw [hb];(try simp only [nm] at hb)))|(refine cH (by first|exact cK T rfl|exact bD T rfl rfl (by decide) (by decide) rfl rfl rfl) rfl ?_))|(first|(refine wT ?_)|(refine wU ?_)|(refine sE rfl (fun hb=>?_) (fun hb=>?_)<;>(try simp only [nm] at hb)))));all_goals first | exact rQ | (exfalso;omega)
def zZ9 (t u w e : Int) : Int := (max (w - e - t) 0 + u - 1) / u
def zZ8 (t u w e : Int) : Int := (w + e - t) / u + 1
set_option maxHeartbeats 1000000 in
theorem MS (t u w e : Int) (h : GS t u w e) (h1 : 0 ≤ w + e - t) (h2 : 0 < u) : aU Tryz.prog 87 [.i t,.i u,.i w,.i e] [] (.tup [mT (GX (zZ9 t u w e) (zZ8 t u w e)) (cutT (zZ9 t u w e) (zZ8 t u w e)),.b (zK (zZ9 t u w e) (zZ8 t u w e))]) [] := by
  have h' := h;unfold GS at h';have q1 := Int.ediv_nonneg h1 (Int.le_of_lt h2);have q2 := Int.ediv_le_self u h1;refine bX T Tryz.func87 rfl rfl rfl rfl ?_
  (repeat' (first|(first|(refine eS ?_)|(refine qL ?_)|(refine vW ?_)|(refine uH ?_)|(refine rC ?_))|(first|(refine vV (by first|exact bR rfl|exact dJ rfl|exact kM rfl rfl|exact jV rfl rfl|exact cJ rfl rfl (by omega) (by omega)|exact cX rfl rfl (by omega) (by omega)|exact aJ rfl rfl|exact fB rfl rfl|exact eX rfl rfl|exact eM rfl|exact eR T rfl rfl rfl rfl|exact eW rfl rfl (GR h) (by ((repeat (first|exact .nil|exact .v _|refine .cons ?_ ?_|refine .sl rfl (by simp) ?_));done)) rfl rfl) ?_)|(refine bA T rfl rfl rfl rfl rfl rfl (by decide) rfl ?_)|(refine iF ?_)|(refine CW rfl rfl ?_ rfl)|(refine CX rfl rfl ?_ rfl)|(refine PA rfl rfl ?_ rfl)|(refine sK rfl rfl (fun hb=>?_) (fun hb=>?_) rfl<;>(rw [hb];(try simp only [nm] at hb)))|(refine cH (by first|exact cK T rfl|exact bD T rfl rfl (by decide) (by decide) rfl rfl rfl) rfl ?_))|(first|(refine dV rfl (by first|exact bR rfl|exact cJ rfl rfl (by omega) (by omega)|exact cX rfl rfl (by omega) (by omega)|exact zL5 rfl rfl (by omega) (by omega) (by omega)|exact jQ rfl rfl|exact F7 rfl rfl|exact eR T rfl rfl rfl rfl|exact fU rfl rfl (FU _ _) rfl rfl rfl) ?_)|(refine BH rfl rfl (by (dsimp only [List.nil_append,List.cons_append,mP,List.append_nil];done)) ?_))|(refine LW (id := 8) [[],[0],[],[0,1,2],rN 4,[],rN 6,[],[],[7,8],[7,8,9],rN 11,rN 12,rN 13,rN 13] (rM 46 15) [[],[],[46,47],[],[],rM 46 5,[],rM 46 7,rM 46 8,rM 46 7,rM 46 7,[],[],[],[59]] cW (by decide +kernel) ?_)|(first|(refine wT ?_)|(refine wU ?_)|(refine sE rfl (fun hb=>?_) (fun hb=>?_)<;>(try simp only [nm] at hb)))));all_goals first | (exfalso;omega) | exact rQ
end Go.Proofs.YtmmmeebiobjnbaaGreat
namespace Go.Ld
open Go.Ab Go.Proofs.YtmmmeebiobjnbaaGreat
abbrev SP := Int × Int
abbrev W := List Int × Int × List SP
abbrev G := List Int × List W
abbrev fL (l : List SP) : List (List AV) := l.map fun p => [AV.i p.1,AV.i p.2]
abbrev wA (w : W) : List AV := [.rowE (Go.Proofs.YtmmmeebiobjnbaaGreat.ints w.1) 1,.i w.2.1,.rowE (fL w.2.2) 2]
abbrev gB (l : List W) : List (List AV) := l.map wA
abbrev gA (g : G) : List AV := [.rowE (Go.Proofs.YtmmmeebiobjnbaaGreat.ints g.1) 1,.rowE (gB g.2) 3]
abbrev kB (l : List G) : List (List AV) := l.map gA
def cI (a b : Int) : Int := if a < b then -1 else if b < a then 1 else 0
def Q3 (a b : Int) : Int := if a = 0 then b else a
def cL : List Int → List Int → Int
  | [],[] => 0
  | [],_ :: _ => -1
  | _ :: _,[] => 1
  | x :: a,y :: b => Q3 (cI x y) (cL a b)
def cS (x y : SP) : Int := Q3 (cI x.1 y.1) (cI x.2 y.2)
def cB : List SP → List SP → Int
  | [],[] => 0
  | [],_ :: _ => -1
  | _ :: _,[] => 1
  | x :: a,y :: b => Q3 (cS x y) (cB a b)
def oO (a b : W) : Int := Q3 (cL a.1 b.1) (cB a.2.2 b.2.2)
def eN (a b : W) : Int := Q3 (oO a b) (cI a.2.1 b.2.1)
structure FG {α : Type} (c : α → α → Int) : Prop where
  eq : ∀ a b,c a b = 0 ↔ a = b
  neg : ∀ a b,c a b = - c b a
  tr : ∀ a b d,c a b < 0 → c b d < 0 → c a d < 0
theorem FG.rfl' {α : Type} {c : α → α → Int} (h : FG c) (a : α) : c a a = 0 := (h.eq a a).2 rfl
theorem FG.le_tr {α : Type} {c : α → α → Int} (h : FG c) {a b d : α} (h1 : c a b ≤ 0) (h2 : c b d ≤ 0) : c a d ≤ 0 := by
  by_cases e : c a b = 0
  · rw [(h.eq _ _).1 e];exact h2
  · by_cases e' : c b d = 0
    · rw [← (h.eq _ _).1 e'];exact h1
    · have := h.tr a b d (by omega) (by omega);omega
theorem qK : FG cI where
  eq a b := by unfold cI;split <;> (try split) <;> omega
  neg a b := by unfold cI;split <;> split <;> (try split) <;> omega
  tr a b d := by unfold cI; repeat' split
                 all_goals omega
theorem GA {a b : Int} : Q3 a b = 0 ↔ a = 0 ∧ b = 0 := by unfold Q3;split <;> omega
theorem FZ {a b : Int} : Q3 (-a) (-b) = - Q3 a b := by unfold Q3;split <;> split <;> omega
theorem NM {a b : Int} : Q3 a b < 0 ↔ a < 0 ∨ a = 0 ∧ b < 0 := by unfold Q3;split <;> omega
theorem FG.lex {α β γ : Type} {c : α → α → Int} {d : β → β → Int} (hc : FG c) (hd : FG d) (f : γ → α) (g : γ → β) (inj : ∀ x y, f x = f y → g x = g y → x = y) : FG fun x y => Q3 (c (f x) (f y)) (d (g x) (g y)) where
  eq a b := by
    rw [GA,hc.eq,hd.eq];exact ⟨fun h => inj _ _ h.1 h.2,fun h => by rw [h];exact ⟨rfl,rfl⟩⟩
  neg a b := by rw [hc.neg,hd.neg,FZ]
  tr a b e h1 h2 := by
    simp only [NM] at *;rcases h1 with h1 | ⟨h1,h1'⟩
    · rcases h2 with h2 | ⟨h2,h2'⟩
      · exact .inl (hc.tr _ _ _ h1 h2)
      · rw [(hc.eq _ _).1 h2] at h1;exact .inl h1
    · rw [(hc.eq _ _).1 h1];rcases h2 with h2 | ⟨h2,h2'⟩
      · exact .inl h2
      · exact .inr ⟨h2,hd.tr _ _ _ h1' h2'⟩
theorem ZU : FG cL where
  eq := fun a => by
    induction a with
    | nil => intro b;cases b <;> simp [cL]
    | cons x a ih => intro b; cases b with
      | nil => simp [cL]
      | cons y b => simp only [cL,GA,qK.eq,ih,List.cons.injEq]
  neg := fun a => by
    induction a with
    | nil => intro b;cases b <;> simp [cL]
    | cons x a ih => intro b; cases b with
      | nil => simp [cL]
      | cons y b => simp only [cL];rw [qK.neg,ih,FZ]
  tr := fun a => by
    induction a with
    | nil => intro b d;cases b <;> cases d <;> simp [cL]
    | cons x a ih =>
      intro b d h1 h2;cases b with
      | nil => simp [cL] at h1
      | cons y b => cases d with
        | nil => simp [cL] at h2
        | cons z d =>
          simp only [cL,NM] at *;rcases h1 with h1 | ⟨h1,h1'⟩
          · rcases h2 with h2 | ⟨h2,h2'⟩
            · exact .inl (qK.tr _ _ _ h1 h2)
            · rw [(qK.eq _ _).1 h2] at h1;exact .inl h1
          · rw [(qK.eq _ _).1 h1];rcases h2 with h2 | ⟨h2,h2'⟩
            · exact .inl h2
            · exact .inr ⟨h2,ih _ _ h1' h2'⟩
theorem BL : FG cS := FG.lex qK qK (·.1) (·.2) fun x y h1 h2 => Prod.ext h1 h2
theorem ZV : FG cB where
  eq := fun a => by
    induction a with
    | nil => intro b;cases b <;> simp [cB]
    | cons x a ih => intro b; cases b with
      | nil => simp [cB]
      | cons y b => simp only [cB,GA,BL.eq,ih,List.cons.injEq]
  neg := fun a => by
    induction a with
    | nil => intro b;cases b <;> simp [cB]
    | cons x a ih => intro b; cases b with
      | nil => simp [cB]
      | cons y b => simp only [cB];rw [BL.neg,ih,FZ]
  tr := fun a => by
    induction a with
    | nil => intro b d;cases b <;> cases d <;> simp [cB]
    | cons x a ih =>
      intro b d h1 h2;cases b with
      | nil => simp [cB] at h1
      | cons y b => cases d with
        | nil => simp [cB] at h2
        | cons z d =>
          simp only [cB,NM] at *;rcases h1 with h1 | ⟨h1,h1'⟩
          · rcases h2 with h2 | ⟨h2,h2'⟩
            · exact .inl (BL.tr _ _ _ h1 h2)
            · rw [(BL.eq _ _).1 h2] at h1;exact .inl h1
          · rw [(BL.eq _ _).1 h1];rcases h2 with h2 | ⟨h2,h2'⟩
            · exact .inl h2
            · exact .inr ⟨h2,ih _ _ h1' h2'⟩
theorem JV : FG (fun x y : List Int × List SP => Q3 (cL x.1 y.1) (cB x.2 y.2)) := FG.lex ZU ZV (·.1) (·.2) fun x y h1 h2 => Prod.ext h1 h2
theorem jF : FG eN := FG.lex JV qK (fun w : W => (w.1,w.2.2)) (fun w => w.2.1) fun x y h1 h2 => by
  obtain ⟨a,b,c⟩ := x;obtain ⟨a',b',c'⟩ := y;simp at h1 h2;obtain ⟨h1,h3⟩ := h1;rw [h1,h2,h3]
theorem pA {a b : W} : oO a b = 0 ↔ a.1 = b.1 ∧ a.2.2 = b.2.2 := by unfold oO;rw [GA,ZU.eq,ZV.eq]
def CK {α : Type} (c : α → α → Int) (w : α) : List α → List α
  | [] => [w]
  | x :: l => if c w x ≤ 0 then w :: x :: l else x :: CK c w l
def dY {α : Type} (c : α → α → Int) : List α → List α
  | [] => []
  | x :: l => CK c x (dY c l)
theorem B5 {α : Type} (c : α → α → Int) (w : α) : ∀ l, (CK c w l).Perm (w :: l)
  | [] => .refl _
  | x :: l => by
    unfold CK;split
    · exact .refl _
    · exact ((B5 c w l).cons x).trans (.swap _ _ _)
theorem dI {α : Type} (c : α → α → Int) : ∀ l, (dY c l).Perm l
  | [] => .refl _
  | x :: l => (B5 c x _).trans ((dI c l).cons x)
theorem QI {α : Type} {c : α → α → Int} (h : FG c) (w : α) : ∀ {l : List α}, l.Pairwise (fun a b => c a b ≤ 0) → (CK c w l).Pairwise (fun a b => c a b ≤ 0)
  | [],_ => jY _ _
  | x :: l,hl => by
    rw [eV] at hl;unfold CK;split
    · rename_i hw;rw [eV,eV];refine ⟨fun y hy => ?_,hl⟩
      rcases bU.1 hy with rfl | hy
      · exact hw
      · exact h.le_tr hw (hl.1 y hy)
    · rename_i hw;rw [eV];refine ⟨fun y hy => ?_,QI h w hl.2⟩
      rcases bU.1 ((B5 c w l).mem_iff.1 hy) with rfl | hy
      · have := h.neg x y;omega
      · exact hl.1 y hy
theorem lP {α : Type} {c : α → α → Int} (h : FG c) : ∀ l, (dY c l).Pairwise (fun a b => c a b ≤ 0)
  | [] => .nil
  | x :: l => QI h x (lP h l)
theorem F3 {α : Type} {c : α → α → Int} (h : FG c) {l m : List α} (hp : m.Perm l) (hm : m.Pairwise (fun a b => c a b ≤ 0)) : m = dY c l :=
  List.Perm.eq_of_pairwise (le := fun a b => c a b ≤ 0) (fun a b _ _ h1 h2 => (h.eq a b).1 (by have := h.neg a b;omega)) hm (lP h l) (hp.trans (dI c l).symm)
def kN {α : Type} (e : α → α → Bool) (p : α) : List α → List α
  | [] => []
  | y :: l => if e y p then kN e y l else y :: kN e y l
def zL {α : Type} (e : α → α → Bool) : List α → List α
  | [] => []
  | x :: l => x :: kN e x l
def E3 (a b : W) : Bool := decide (oO a b = 0)
def gJ (l : List W) : List W := zL E3 (dY eN l)
structure Cx where
  m : Int
  st : Int
  er : Int
  sl : Int
  ks : List KD
  ls : List LT
  bs : List BX
structure Ev where
  k : Int
  a : Int
  b : Int
  n : Int
  ids : List Int
def gP (w : W) (i : Nat) : Int := w.1.getD i 0
def gC (w : W) (i : Nat) : SP := w.2.2.getD i (0,0)
def sC (w : W) (i : Nat) (r : SP) : W := (w.1,w.2.1,w.2.2.set i r)
def K1 (f t : Int) : SP × Bool := ((GX f t,cutT f t),zK f t)
def EO (a b c d : Int) : Bool := decide (0 ≤ a ∧ a ≤ 1099511627776 ∧ 0 ≤ b ∧ b ≤ 1099511627776 ∧ 0 ≤ c ∧ c ≤ 1099511627776 ∧ 0 ≤ d ∧ d ≤ 1099511627776)
def VE (t u w e : Int) : SP × Bool := if EO t u w e = true then (if w + e - t < 0 ∨ u = 0 ∧ 0 < w - e - t then ((0,0),false) else if u = 0 then ((0,20001),true) else K1 (zZ9 t u w e) (zZ8 t u w e)) else ((0,0),false)
def uL (t u w e : Int) (r : SP) : SP × Bool := let q := VE t u w e;if q.2 then K1 (max r.1 q.1.1) (min r.2 q.1.2) else q
def zC (r : SP) (n s : Int) : SP × Bool := if 0 ≤ n ∧ n ≤ 1099511627776 ∧ 0 ≤ s ∧ s ≤ 1099511627776 then K1 (r.1 - n - s) (r.2 - max (n - s) 0) else ((0,0),false)
def jX (c : Cx) (w : W) (i : Nat) (s : Ev) : W × Bool :=
  if s.k = 0 then (if gP w i ∈ s.ids then (w,decide ((s.ids.length : Int) - 1 ≤ c.st)) else ((w.1,w.2.1 + 1,w.2.2),decide ((s.ids.length : Int) ≤ c.st)))
  else if s.k = 1 then
    let b := c.bs.getD (gP w i).toNat (0,0,0)
    let q := uL b.2.2 (qP c.ks c.ls b.1) s.n c.er (gC w i)
    (sC w i q.1,q.2)
  else if s.k = 2 then let q := zC (gC w i) s.n c.sl;(sC w i q.1,q.2)
  else if s.k = 3 then (sC w i (s.n,s.n + 1),vQ (gC w i).1 (gC w i).2 s.n)
  else if s.k = 5 then (w,decide (gP w i = s.n))
  else (w,true)
def oS (w : W) (i k : Nat) : W := ((w.1.set i (gP w k)).set k (gP w i),w.2.1,(w.2.2.set i (gC w k)).set k (gC w i))
def oR (l : List G) (b : Int) : Int := match l.findIdx? fun g => decide (b ∈ g.1) with
  | some i => i
  | none => -1
def E1 (a b : G) (x y : W) (l : List Int) : W := (l.map (fun k => if k ∈ a.1 then gP x (a.1.idxOf k) else gP y (b.1.idxOf k)),x.2.1 + y.2.1,l.map (fun k => if k ∈ a.1 then gC x (a.1.idxOf k) else gC y (b.1.idxOf k)))
def pG (a b : G) (l : List Int) : List W := a.2.flatMap fun x => b.2.map fun y => E1 a b x y l
def mA (l : List G) (i : Nat) : G := l.getD i ([],[])
def mI (x y : G) : G := let bodies := dY cI (x.1 ++ y.1);(bodies,pG x y bodies)
def join (l : List G) (a b : Int) : Option (List G) :=
  let i := oR l a;let k := oR l b
  if i = k then some l else
  let x := mA l i.toNat;let y := mA l k.toNat
  if 6 < x.1.length + y.1.length ∨ 1000 < x.2.length * y.2.length then none else
  some ((l.set (min i k).toNat (mI x y)).eraseIdx (max i k).toNat)
def gI (g : G) : Int := match g.2 with
  | [] => 0
  | w :: l => l.foldl (fun m x => if x.2.1 < m then x.2.1 else m) w.2.1
def yY (g : G) (i : Nat) : Bool := match g.2 with
  | [] => false
  | f :: l => (f :: l).all fun w => decide (gP w i = gP f i ∧ gC w i = gC f i)
def iD (g : G) : Option Nat := if g.1.length < 2 ∨ g.2 = [] then none else (List.range g.1.length).find? (yY g)
def iH (g : G) : W := g.2.headD ([],0,[])
def nA (g : G) (k : Nat) : G := ([g.1.getD k 0],[([gP (iH g) k],0,[gC (iH g) k])])
def jM (g : G) (k : Nat) : G := (g.1.eraseIdx k,gJ (g.2.map fun w => (w.1.eraseIdx k,w.2.1,w.2.2.eraseIdx k)))
def lQ : Nat → G → List G
  | 0,g => [g]
  | n + 1, g => match iD g with
    | none => [g]
    | some k => nA g k :: lQ n (jM g k)
def cG (a b : G) : Int := cI (a.1.headD 0) (b.1.headD 0)
def qQ (l : List G) : List G := dY cG (l.flatMap fun g => lQ g.1.length g)
def jO (l : List G) : Int := (l.map gI).sum
def paid (c : Cx) (all : List G) : List G := all.map fun g => (g.1,g.2.filter fun w => decide (w.2.1 + (jO all - gI g) ≤ c.m))
def uM (c : Cx) (all : List G) : List G := qQ (paid c all)
def mF (c : Cx) (s : Ev) (g : G) : List W :=
  let i := g.1.idxOf s.a
  g.2.flatMap fun w => (if (jX c w i s).2 then [(jX c w i s).1] else []) ++ (if s.k = 4 then [oS w i (g.1.idxOf s.b)] else [])
def zP6 (l : List Int) (n : Int) : Bool := (List.range l.length).all fun i => decide (0 ≤ l.getD i 0 ∧ l.getD i 0 ≤ n - 1 ∧ (0 < i → l.getD (i - 1) 0 < l.getD i 0))
def iB (n : Int) (s : Ev) : Bool := decide (0 ≤ s.a ∧ s.a ≤ n - 1) && decide (s.k = 0 ∨ s.ids.length = 0) && decide (s.k = 4 ∨ s.b = 0) &&
  (if s.k = 0 then decide (s.n = 0) && zP6 s.ids n else if s.k = 1 ∨ s.k = 2 ∨ s.k = 3 then decide (0 ≤ s.n ∧ s.n ≤ 1099511627776) else if s.k = 4 then decide (s.n = 0 ∧ s.a + 1 ≤ s.b ∧ s.b ≤ n - 1) else if s.k = 5 then decide (0 ≤ s.n ∧ s.n ≤ n - 1) else false)
def rH (c : Cx) (l all : List G) (s : Ev) : Int × List G :=
  let at_ := (oR all s.a).toNat
  let g := mA all at_
  let ws := gJ (mF c s g)
  if ws = [] then (26,l) else if 1000 < ws.length then (6,l) else
  let out := uM c (all.set at_ (g.1,ws))
  if out.any (fun g => g.2.isEmpty) then (26,l) else (0,out)
def eZ (c : Cx) (l : List G) (s : Ev) : Int × List G :=
  if iB c.bs.length s then
    (if s.k = 4 then (match join l s.a s.b with
      | none => (6,l)
      | some all => rH c l all s)
    else rH c l l s)
  else (1,l)
def pT (c : Cx) : List G := (List.range c.bs.length).map fun (i : Nat) => ([(i : Int)],[([(i : Int)],0,[((c.bs.getD i (0,0,0)).2.1,(c.bs.getD i (0,0,0)).2.1 + 1)])])
theorem zI3 {a b d : W} (h1 : oO a b < 0) (h2 : oO b d < 0) : oO a d < 0 := JV.tr (a.1,a.2.2) (b.1,b.2.2) (d.1,d.2.2) h1 h2
theorem NK {a b d : W} (h : oO b a = 0) : oO a d = oO b d := by
  obtain ⟨h1,h2⟩ := pA.1 h;unfold oO;rw [h1,h2]
theorem QW {a b : W} (h : eN a b ≤ 0) : oO a b < 0 ∨ oO a b = 0 ∧ a.2.1 ≤ b.2.1 := by
  unfold eN Q3 at h;split at h
  · rename_i e;refine .inr ⟨e,?_⟩;unfold cI at h;split at h <;> (try split at h) <;> omega
  · omega
theorem xM {α : Type} (e : α → α → Bool) : ∀ (p : α) (l : List α), (kN e p l).Sublist l
  | _,[] => .slnil
  | p,y :: l => by
    unfold kN;split
    · exact (xM e y l).cons _
    · exact (xM e y l).cons_cons _
theorem ES {α : Type} (e : α → α → Bool) : ∀ (l : List α), (zL e l).Sublist l
  | [] => .slnil
  | x :: l => (xM e x l).cons_cons _
theorem pP {l : List W} {w : W} (h : w ∈ gJ l) : w ∈ l := (dI eN l).mem_iff.1 ((ES _ _).mem h)
theorem rJ (l : List W) : (gJ l).length ≤ l.length := by
  have := (ES E3 (dY eN l)).length_le;rw [(dI eN l).length_eq] at this;exact this
theorem uT : ∀ (l : List W) (q p : W), (p :: l).Pairwise (fun a b => eN a b ≤ 0) → oO q p = 0 → q.2.1 ≤ p.2.1 → ∀ w, w ∈ p :: l → ∃ v, v ∈ q :: kN E3 p l ∧ oO v w = 0 ∧ v.2.1 ≤ w.2.1
  | [],q,p,hs,h1,h2,w,hw => by
    rcases bU.1 hw with rfl | hw
    · exact ⟨q,aS,h1,h2⟩
    · cases hw
  | y :: l,q,p,hs,h1,h2,w,hw => by
    have hs' := eV.1 hs;rcases bU.1 hw with rfl | hw
    · exact ⟨q,aS,h1,h2⟩
    · unfold kN;by_cases e : E3 y p = true
      · rw [if_pos e];have e' : oO y p = 0 := by unfold E3 at e;simpa using e
        have hpy : oO p y = 0 := by obtain ⟨a,b⟩ := pA.1 e';exact pA.2 ⟨a.symm,b.symm⟩
        rcases QW (hs'.1 y aS) with hl | ⟨_,hl⟩
        · omega
        · refine uT l q y hs'.2 ?_ (by omega) w hw
          obtain ⟨a,b⟩ := pA.1 h1;obtain ⟨a',b'⟩ := pA.1 hpy;exact pA.2 ⟨a.trans a',b.trans b'⟩
      · rw [if_neg e];obtain ⟨v,hv,h3,h4⟩ := uT l y y hs'.2 (pA.2 ⟨rfl,rfl⟩) (eH _) w hw;exact ⟨v,aI _ hv,h3,h4⟩
theorem wX {l : List W} {w : W} (h : w ∈ l) : ∃ v,v ∈ gJ l ∧ v.1 = w.1 ∧ v.2.2 = w.2.2 ∧ v.2.1 ≤ w.2.1 := by
  have hs := lP jF l;have hw := (dI eN l).mem_iff.2 h;unfold gJ;generalize dY eN l = m at *;cases m with
  | nil => cases hw
  | cons x m =>
    obtain ⟨v,hv,h1,h2⟩ := uT m x x hs (pA.2 ⟨rfl,rfl⟩) (eH _) w hw;exact ⟨v,hv,(pA.1 h1).1,(pA.1 h1).2,h2⟩
theorem R4 : ∀ (l : List W) (p : W), (p :: l).Pairwise (fun a b => eN a b ≤ 0) → (∀ z, z ∈ kN E3 p l → oO p z < 0) ∧ (kN E3 p l).Pairwise (fun a b => oO a b < 0)
  | [],p,_ => ⟨fun z hz => (by cases hz),.nil⟩
  | y :: l,p,hs => by
    have hs' := eV.1 hs;obtain ⟨h1,h2⟩ := R4 l y hs'.2;unfold kN;by_cases e : E3 y p = true
    · rw [if_pos e];have e' : oO y p = 0 := by unfold E3 at e;simpa using e
      exact ⟨fun z hz => by rw [NK e'];exact h1 z hz,h2⟩
    · rw [if_neg e];have e' : oO p y < 0 := by
        rcases QW (hs'.1 y aS) with hl | ⟨hl,_⟩
        · exact hl
        · exfalso;apply e;unfold E3;obtain ⟨a,b⟩ := pA.1 hl;simp [pA.2 ⟨a.symm,b.symm⟩]
      refine ⟨fun z hz => ?_,eV.2 ⟨h1,h2⟩⟩
      rcases bU.1 hz with rfl | hz
      · exact e'
      · exact zI3 e' (h1 z hz)
theorem AG (l : List W) : (gJ l).Pairwise (fun a b => oO a b < 0) := by
  have hs := lP jF l;unfold gJ;generalize dY eN l = m at *;cases m with
  | nil => exact .nil
  | cons x m => exact eV.2 (R4 m x hs)
theorem Q2 {l : List W} : gJ l = [] ↔ l = [] := by
  constructor
  · intro h;cases l with
    | nil => rfl
    | cons x l => obtain ⟨v,hv,_⟩ := wX (l := x :: l) (w := x) aS;rw [h] at hv;cases hv
  · rintro rfl;rfl
abbrev As := Int → Int × SP
def oF (bs : List Int) (w : W) (f : As) : Prop := w.1 = bs.map (fun b => (f b).1) ∧ w.2.2 = bs.map (fun b => (f b).2)
def G6 (g : G) (f : As) (m : Int) : Prop := ∃ w,w ∈ g.2 ∧ oF g.1 w f ∧ w.2.1 ≤ m
def Sem : List G → As → Int → Prop
  | [],_,M => 0 ≤ M
  | g :: gs,f,M => ∃ m,G6 g f m ∧ Sem gs f (M - m)
theorem G6.mono {g : G} {f : As} {m m' : Int} (h : G6 g f m) (hm : m ≤ m') : G6 g f m' := by
  obtain ⟨w,h1,h2,h3⟩ := h;exact ⟨w,h1,h2,by omega⟩
theorem Sem.mono : ∀ {gs : List G} {f : As} {M M' : Int}, Sem gs f M → M ≤ M' → Sem gs f M'
  | [],f,M,M',h,hm => by unfold Sem at *;omega
  | g :: gs,f,M,M',⟨m,h1,h2⟩,hm => ⟨m,h1,h2.mono (by omega)⟩
theorem PL {g : G} {f : As} {M : Int} : Sem [g] f M ↔ G6 g f M := by
  constructor
  · rintro ⟨m,h1,h2⟩;unfold Sem at h2;exact h1.mono (by omega)
  · intro h;exact ⟨M,h,by unfold Sem;omega⟩
theorem FR : ∀ (a b : List G) (f : As) (M : Int), Sem (a ++ b) f M ↔ ∃ m, Sem a f m ∧ Sem b f (M - m)
  | [],b,f,M => by
    constructor
    · intro h;exact ⟨0,by unfold Sem;omega,by rw [G7];exact h⟩
    · rintro ⟨m,h1,h2⟩;unfold Sem at h1;exact h2.mono (by omega)
  | g :: a,b,f,M => by
    simp only [List.cons_append,Sem];constructor
    · rintro ⟨m,h1,h2⟩;obtain ⟨m',h3,h4⟩ := (FR a b f _).1 h2;exact ⟨m + m',⟨m,h1,h3.mono (by omega)⟩,h4.mono (by omega)⟩
    · rintro ⟨m,⟨m',h1,h2⟩,h3⟩;exact ⟨m',h1,(FR a b f _).2 ⟨m - m',h2,h3.mono (by omega)⟩⟩
theorem oM {a b : List G} (h : a.Perm b) : ∀ {f : As} {M : Int},Sem a f M ↔ Sem b f M := by
  induction h with
  | nil => intro f M;exact Iff.rfl
  | cons x _ ih => intro f M;simp only [Sem,ih]
  | swap x y l =>
    intro f M;simp only [Sem];constructor
    · rintro ⟨m,h1,m',h2,h3⟩;exact ⟨m',h2,m,h1,h3.mono (by omega)⟩
    · rintro ⟨m,h1,m',h2,h3⟩;exact ⟨m',h2,m,h1,h3.mono (by omega)⟩
  | trans _ _ ih1 ih2 => intro f M;rw [ih1,ih2]
theorem JC {F : G → List G} {f : As} : ∀ {gs : List G}, (∀ g, g ∈ gs → ∀ M, Sem (F g) f M ↔ G6 g f M) → ∀ {M : Int}, Sem (gs.flatMap F) f M ↔ Sem gs f M
  | [],_,M => Iff.rfl
  | g :: gs,h,M => by
    rw [bJ,FR];simp only [Sem,JC (fun g hg => h g (aI _ hg)),h g aS]
theorem Q4 {bs : List Int} {l : List W} {f : As} {m : Int} : G6 (bs,gJ l) f m ↔ G6 (bs,l) f m := by
  constructor
  · rintro ⟨w,h1,h2,h3⟩;exact ⟨w,pP h1,h2,h3⟩
  · rintro ⟨w,h1,h2,h3⟩;obtain ⟨v,hv,a,b,d⟩ := wX h1;exact ⟨v,hv,⟨a.trans h2.1,b.trans h2.2⟩,CS d h3⟩
def MP (r : SP) : Prop := 0 ≤ r.1 ∧ r.1 < r.2 ∧ r.2 ≤ 20001
structure FC (n k : Nat) (w : W) : Prop where
  pl : w.1.length = k
  cl : w.2.2.length = k
  pr : ∀ x,x ∈ w.1 → 0 ≤ x ∧ x < n
  nd : w.1.Nodup
  m0 : 0 ≤ w.2.1
  m1 : w.2.1 ≤ 4000000
  sp : ∀ r,r ∈ w.2.2 → MP r
structure zZ (n : Nat) (g : G) : Prop where
  ne : g.1 ≠ []
  up : g.1.Pairwise (· < ·)
  rg : ∀ b,b ∈ g.1 → 0 ≤ b ∧ b < n
  ln : g.1.length ≤ 6
  ws : ∀ w,w ∈ g.2 → FC n g.1.length w
  same : ∀ w v,w ∈ g.2 → v ∈ g.2 → w.1.Perm v.1
theorem zZ.nd {n : Nat} {g : G} (h : zZ n g) : g.1.Nodup := h.up.imp (fun h => by omega)
theorem O7 : ∀ (l : List W) (a : Int), l.foldl (fun m x => if x.2.1 < m then x.2.1 else m) a ≤ a ∧ (∀ x, x ∈ l → l.foldl (fun m x => if x.2.1 < m then x.2.1 else m) a ≤ x.2.1) ∧ (l.foldl (fun m x => if x.2.1 < m then x.2.1 else m) a = a ∨ ∃ x, x ∈ l ∧ l.foldl (fun m x => if x.2.1 < m then x.2.1 else m) a = x.2.1)
  | [],a => ⟨eH _,fun x hx => (by cases hx),.inl rfl⟩
  | y :: l,a => by
    rw [D3];obtain ⟨h1,h2,h3⟩ := O7 l (if y.2.1 < a then y.2.1 else a)
    generalize l.foldl (fun m x => if x.2.1 < m then x.2.1 else m) (if y.2.1 < a then y.2.1 else a) = q at *
    refine ⟨by split at h1 <;> omega,fun x hx => ?_,?_⟩
    · rcases bU.1 hx with rfl | hx
      · split at h1 <;> omega
      · exact h2 x hx
    · rcases h3 with h3 | ⟨x,hx,h3⟩
      · split at h3
        · exact .inr ⟨y,aS,h3⟩
        · exact .inl h3
      · exact .inr ⟨x,aI _ hx,h3⟩
theorem sX {g : G} {w : W} (h : w ∈ g.2) : gI g ≤ w.2.1 := by
  unfold gI;cases hg : g.2 with
  | nil => rw [hg] at h;cases h
  | cons x l =>
    rw [hg] at h;obtain ⟨h1,h2,h3⟩ := O7 l x.2.1;rcases bU.1 h with rfl | h
    · exact h1
    · exact h2 _ h
theorem sI {g : G} (h : g.2 ≠ []) : ∃ w,w ∈ g.2 ∧ w.2.1 = gI g := by
  unfold gI;cases hg : g.2 with
  | nil => exact absurd hg h
  | cons x l =>
    obtain ⟨h1,h2,h3⟩ := O7 l x.2.1;rcases h3 with h3 | ⟨y,hy,h3⟩
    · exact ⟨x,aS,h3.symm⟩
    · exact ⟨y,aI _ hy,h3.symm⟩
theorem SZ {g : G} {f : As} {m : Int} (h : G6 g f m) : gI g ≤ m := by
  obtain ⟨w,h1,_,h3⟩ := h;exact CS (sX h1) h3
theorem DE : ∀ {gs : List G} {f : As} {M : Int}, Sem gs f M → jO gs ≤ M
  | [],f,M,h => by unfold Sem at h;simpa [jO] using h
  | g :: gs,f,M,⟨m,h1,h2⟩ => by
    have := SZ h1;have := DE h2;simp only [jO,List.map_cons,yH3] at *;omega
def yB3 (c : Cx) (S : Int) (all : List G) : List G := all.map fun g => (g.1,g.2.filter fun w => decide (w.2.1 + (S - gI g) ≤ c.m))
theorem M5 {c : Cx} {S : Int} : ∀ {gs : List G} {f : As} {M : Int}, M + (S - jO gs) ≤ c.m → (Sem (yB3 c S gs) f M ↔ Sem gs f M)
  | [],f,M,h => Iff.rfl
  | g :: gs,f,M,h => by
    have e : jO (g :: gs) = gI g + jO gs := by simp [jO]
    constructor
    · rintro ⟨m,⟨w,h1,h2,h3⟩,h4⟩;have h1' := (eF.1 h1).1;have := sX h1';exact ⟨m,⟨w,h1',h2,h3⟩,(M5 (by omega)).1 h4⟩
    · rintro ⟨m,⟨w,h1,h2,h3⟩,h4⟩;have := sX h1;have := DE h4;refine ⟨m,⟨w,?_,h2,h3⟩,(M5 (by omega)).2 h4⟩
      rw [eF];refine ⟨h1,?_⟩;simp only [decide_eq_true_eq];omega
theorem WF {c : Cx} {gs : List G} {f : As} {M : Int} (h : M ≤ c.m) : Sem (paid c gs) f M ↔ Sem gs f M := M5 (S := jO gs) (by omega)
theorem AX {bs : List Int} {w : W} {f : As} (h : oF bs w f) {i : Nat} (hi : i < bs.length) : gP w i = (f bs[i]).1 := by
  unfold gP;rw [h.1];simp [List.getD,hi]
theorem AZ {bs : List Int} {w : W} {f : As} (h : oF bs w f) {i : Nat} (hi : i < bs.length) : gC w i = (f bs[i]).2 := by
  unfold gC;rw [h.2];simp [List.getD,hi]
theorem vK {α β : Type} (f : α → β) : ∀ (l : List α) (k : Nat), (l.map f).eraseIdx k = (l.eraseIdx k).map f
  | [],_ => rfl
  | x :: l,0 => rfl
  | x :: l,k + 1 => by simp [vK f l k]
def zN5 (k : Nat) (w : W) : W := (w.1.eraseIdx k,w.2.1,w.2.2.eraseIdx k)
theorem xH {α : Type} : ∀ {k : Nat} {a b : List α} (x : α), a.length = b.length → a.getD k x = b.getD k x → a.eraseIdx k = b.eraseIdx k → a = b
  | _,[],[],_,_,_,_ => rfl
  | _,[],_ :: _,_,h,_,_ => by simp at h
  | _,_ :: _,[],_,h,_,_ => by simp at h
  | 0,y :: a,z :: b,x,h,h1,h2 => by
    simp at h1 h2;rw [h1,h2]
  | k + 1,y :: a,z :: b,x,h,h1,h2 => by
    simp at h h1 h2;rw [h2.1,xH x h (by simpa using h1) h2.2]
theorem BC {bs : List Int} {w : W} {f : As} {k : Nat} (hk : k < bs.length) (h1 : w.1.length = bs.length) (h2 : w.2.2.length = bs.length) :
    oF bs w f ↔ oF (bs.eraseIdx k) (zN5 k w) f ∧ gP w k = (f (bs.getD k 0)).1 ∧ gC w k = (f (bs.getD k 0)).2 := by
  have hb : bs.getD k 0 = bs[k] := by simp [List.getD,hk]
  constructor
  · intro h;refine ⟨⟨?_,?_⟩,?_,?_⟩
    · show w.1.eraseIdx k = _;rw [h.1,vK]
    · show w.2.2.eraseIdx k = _;rw [h.2,vK]
    · rw [hb];exact AX h hk
    · rw [hb];exact AZ h hk
  · rintro ⟨h,h3,h4⟩;rw [hb] at h3 h4;constructor
    · refine xH (k := k) 0 (by simp [h1]) ?_ (by rw [vK];exact h.1)
      rw [show w.1.getD k 0 = gP w k from rfl,h3];simp [List.getD,hk]
    · refine xH (k := k) (0,0) (by simp [h2]) ?_ (by rw [vK];exact h.2)
      rw [show w.2.2.getD k (0,0) = gC w k from rfl,h4];simp [List.getD,hk]
theorem NC {g : G} {i : Nat} (hne : g.2 ≠ []) : yY g i = true ↔ ∀ w,w ∈ g.2 → gP w i = gP (iH g) i ∧ gC w i = gC (iH g) i := by
  unfold yY iH;cases hg : g.2 with
  | nil => exact absurd hg hne
  | cons f l => simp
theorem jS {g : G} {k : Nat} (h : iD g = some k) : 2 ≤ g.1.length ∧ g.2 ≠ [] ∧ k < g.1.length ∧ ∀ w,w ∈ g.2 → gP w k = gP (iH g) k ∧ gC w k = gC (iH g) k := by
  unfold iD at h;split at h
  · cases h
  · rename_i hc;have hne : g.2 ≠ [] := fun e => hc (.inr e)
    have h1 := List.find?_some h;have h2 := List.mem_of_find?_eq_some h;rw [fF] at h2;exact ⟨by omega,hne,h2,(NC hne).1 h1⟩
theorem jD {g : G} (h : g.2 ≠ []) : iH g ∈ g.2 := by
  unfold iH;cases hg : g.2 with
  | nil => exact absurd hg h
  | cons f l => simp
theorem JX {g : G} {k : Nat} {f : As} {m : Int} : G6 (nA g k) f m ↔ gP (iH g) k = (f (g.1.getD k 0)).1 ∧ gC (iH g) k = (f (g.1.getD k 0)).2 ∧ 0 ≤ m := by
  unfold G6 nA;constructor
  · rintro ⟨w,h1,h2,h3⟩;simp at h1;subst h1;obtain ⟨h4,h5⟩ := h2;simp at h4 h5;exact ⟨h4,h5,h3⟩
  · rintro ⟨h1,h2,h3⟩;exact ⟨_,bI.2 rfl,⟨by simp [h1],by simp [h2]⟩,h3⟩
theorem SY {n : Nat} {g : G} (ok : zZ n g) {k : Nat} (hc : iD g = some k) {f : As} {M : Int} : (∃ m,G6 (nA g k) f m ∧ G6 (jM g k) f (M - m)) ↔ G6 g f M := by
  obtain ⟨h1,hne,hk,hs⟩ := jS hc;have hr : ∀ M,G6 (jM g k) f M ↔ ∃ w,w ∈ g.2 ∧ oF (g.1.eraseIdx k) (zN5 k w) f ∧ w.2.1 ≤ M := by
    intro M;unfold jM;rw [Q4];unfold G6;constructor
    · rintro ⟨v,hv,a,b⟩;obtain ⟨w,hw,rfl⟩ := bB.1 hv;exact ⟨w,hw,a,b⟩
    · rintro ⟨w,hw,a,b⟩;exact ⟨zN5 k w,bB.2 ⟨w,hw,rfl⟩,a,b⟩
  constructor
  · rintro ⟨m,h2,h3⟩;obtain ⟨a,b,c⟩ := JX.1 h2;obtain ⟨w,hw,d,e⟩ := (hr _).1 h3;have := ok.ws w hw;exact ⟨w,hw,(BC hk this.pl this.cl).2 ⟨d,by rw [(hs w hw).1];exact a,by rw [(hs w hw).2];exact b⟩,by omega⟩
  · rintro ⟨w,hw,d,e⟩;have := ok.ws w hw;obtain ⟨a,b,c⟩ := (BC hk this.pl this.cl).1 d;refine ⟨0,JX.2 ⟨by rw [← (hs w hw).1];exact b,by rw [← (hs w hw).2];exact c,eH _⟩,(hr _).2 ⟨w,hw,a,by omega⟩⟩
theorem uO {α : Type} {l : List α} {k : Nat} {x : α} (h : x ∈ l.eraseIdx k) : x ∈ l := (HT l k).mem h
theorem FC.erase {n k : Nat} {w : W} (h : FC n k w) {i : Nat} (hi : i < k) : FC n (k - 1) (zN5 i w) where
  pl := by show (w.1.eraseIdx i).length = _;rw [fZ,h.pl,if_pos hi]
  cl := by show (w.2.2.eraseIdx i).length = _;rw [fZ,h.cl,if_pos hi]
  pr x hx := h.pr x (uO hx)
  nd := h.nd.sublist (HT _ _)
  m0 := h.m0
  m1 := h.m1
  sp r hr := h.sp r (uO hr)
theorem jR {α : Type} : ∀ (l : List α) (i : Nat) (x : α), i < l.length → (l.getD i x :: l.eraseIdx i).Perm l
  | [],i,x,h => by simp at h
  | y :: l,0,x,h => by simp
  | y :: l,i + 1,x,h => by
    simp only [List.getD_cons_succ,List.eraseIdx_cons_succ];exact (List.Perm.swap _ _ _).trans ((jR l i x (by simpa using h)).cons y)
theorem FC.at {n k : Nat} {w : W} (h : FC n k w) {i : Nat} (hi : i < k) : 0 ≤ gP w i ∧ gP w i < n ∧ MP (gC w i) := by
  unfold gP gC;have h1 : i < w.1.length := by rw [h.pl];exact hi
  have h2 : i < w.2.2.length := by rw [h.cl];exact hi
  simp only [List.getD,aA h1,aA h2,mQ];exact ⟨(h.pr _ (aM h1)).1,(h.pr _ (aM h1)).2,h.sp _ (aM h2)⟩
theorem zZ.one {n : Nat} {g : G} (h : zZ n g) {k : Nat} (hc : iD g = some k) : zZ n (nA g k) := by
  obtain ⟨h1,hne,hk,hs⟩ := jS hc;have hf := h.ws _ (jD hne);have ha := hf.at hk;refine ⟨by simp [nA],by simp [nA],?_,by simp [nA],?_,?_⟩
  · intro b hb;simp only [nA,bI] at hb;subst hb;simp only [List.getD,aA hk,mQ];exact h.rg _ (aM hk)
  · intro w hw;simp only [nA,bI] at hw;subst hw;exact ⟨rfl,rfl,by intro x hx;simp at hx;subst hx;exact ⟨ha.1,ha.2.1⟩,by simp,by simp,by simp,by intro r hr;simp at hr;subst hr;exact ha.2.2⟩
  · intro w v hw hv;simp only [nA,bI] at hw hv;subst hw;subst hv;exact .refl _
theorem zZ.rest {n : Nat} {g : G} (h : zZ n g) {k : Nat} (hc : iD g = some k) : zZ n (jM g k) := by
  obtain ⟨h1,hne,hk,hs⟩ := jS hc;have hl : (g.1.eraseIdx k).length = g.1.length - 1 := by rw [fZ,if_pos hk]
  have hm : ∀ w,w ∈ (jM g k).2 → ∃ v,v ∈ g.2 ∧ w = zN5 k v := by
    intro w hw;obtain ⟨v,hv,rfl⟩ := bB.1 (pP hw);exact ⟨v,hv,rfl⟩
  refine ⟨?_,h.up.sublist (HT _ _),fun b hb => h.rg b (uO hb),?_,?_,?_⟩
  · intro e;have : (g.1.eraseIdx k).length = 0 := by rw [show g.1.eraseIdx k = [] from e];rfl
    omega
  · show (g.1.eraseIdx k).length ≤ 6;have := h.ln;omega
  · intro w hw;obtain ⟨v,hv,rfl⟩ := hm w hw;show FC n (g.1.eraseIdx k).length _;rw [hl];exact (h.ws v hv).erase hk
  · intro w v hw hv;obtain ⟨w,hw',rfl⟩ := hm w hw;obtain ⟨v,hv',rfl⟩ := hm v hv;clear hw hv;have hw := hw';have hv := hv';have h3 := h.same w v hw hv;have e1 := jR w.1 k 0 (by rw [(h.ws w hw).pl];exact hk)
    have e2 := jR v.1 k 0 (by rw [(h.ws v hv).pl];exact hk)
    have e3 : w.1.getD k 0 = v.1.getD k 0 := ((hs w hw).1).trans ((hs v hv).1).symm;rw [e3] at e1;exact (List.perm_cons _).1 (e1.trans (h3.trans e2.symm))
theorem FY {n : Nat} : ∀ (m : Nat) {g : G}, zZ n g → ∀ x, x ∈ lQ m g → zZ n x
  | 0,g,h,x,hx => by simp [lQ] at hx;subst hx;exact h
  | m + 1,g,h,x,hx => by
    unfold lQ at hx;split at hx
    · simp at hx;subst hx;exact h
    · rename_i k hc;rcases bU.1 hx with rfl | hx
      · exact h.one hc
      · exact FY m (h.rest hc) x hx
theorem JB {n : Nat} {f : As} : ∀ (m : Nat) {g : G}, zZ n g → ∀ {M : Int}, Sem (lQ m g) f M ↔ G6 g f M
  | 0,g,h,M => PL
  | m + 1,g,h,M => by
    unfold lQ;split
    · exact PL
    · rename_i k hc;simp only [Sem,JB m (h.rest hc)];exact SY h hc
theorem SG {n : Nat} {f : As} {l : List G} (h : ∀ g,g ∈ l → zZ n g) {M : Int} : Sem (qQ l) f M ↔ Sem l f M := by
  unfold qQ;rw [oM (dI _ _)];exact JC fun g hg M => JB _ (h g hg)
theorem DP {n : Nat} : ∀ (m : Nat) {g : G}, zZ n g → g.1.length ≤ m → ∀ x, x ∈ lQ m g → iD x = none
  | 0,g,h,hl,x,hx => by exact absurd (fA.1 (Nat.le_zero.1 hl)) h.ne
  | m + 1,g,h,hl,x,hx => by
    unfold lQ at hx;split at hx
    · rename_i hc;simp at hx;subst hx;exact hc
    · rename_i k hc;obtain ⟨h1,hne,hk,hs⟩ := jS hc;rcases bU.1 hx with rfl | hx
      · simp [iD,nA]
      · refine DP m (h.rest hc) ?_ x hx;show (g.1.eraseIdx k).length ≤ m;rw [fZ,if_pos hk];omega
theorem zE {n : Nat} : ∀ (m : Nat) {g : G}, zZ n g → ((lQ m g).flatMap (·.1)).Perm g.1
  | 0,g,h => by simp [lQ]
  | m + 1,g,h => by
    unfold lQ;split
    · simp
    · rename_i k hc;obtain ⟨h1,hne,hk,hs⟩ := jS hc;rw [bJ];exact (List.Perm.append_left _ (zE m (h.rest hc))).trans (jR g.1 k 0 hk)
theorem zI0 {m : Nat} : ∀ {g : G},g.2 ≠ [] → ∀ x,x ∈ lQ m g → x.2 ≠ [] := by
  induction m with
  | zero => intro g h x hx;simp [lQ] at hx;subst hx;exact h
  | succ m ih =>
    intro g h x hx;unfold lQ at hx;split at hx
    · simp at hx;subst hx;exact h
    · rename_i k hc;rcases bU.1 hx with rfl | hx
      · simp [nA]
      · refine ih ?_ x hx;show gJ _ ≠ [];rw [Ne,Q2,mH];exact h
theorem JP {g : G} (h : g.2 = []) : ∀ m, lQ m g = [g]
  | 0 => rfl
  | m + 1 => by unfold lQ;rw [show iD g = none by unfold iD;rw [if_pos (.inr h)]]
theorem JQ {m : Nat} : ∀ {g : G} {K : Nat},1 ≤ K → g.2.length ≤ K → ∀ x,x ∈ lQ m g → x.2.length ≤ K := by
  induction m with
  | zero => intro g K _ h x hx;simp [lQ] at hx;subst hx;exact h
  | succ m ih =>
    intro g K h1 h x hx;unfold lQ at hx;split at hx
    · simp at hx;subst hx;exact h
    · rename_i k hc;rcases bU.1 hx with rfl | hx
      · simpa [nA] using h1
      · refine ih h1 ?_ x hx;exact bK (rJ _) (by rw [aY];exact h)
def upd (f : As) (a : Int) (x : Int × SP) : As := fun b => if b = a then x else f b
def HX (f : As) (a b : Int) : As := fun x => if x = a then f b else if x = b then f a else f x
def wL (c : Cx) (s : Ev) (x : Int × SP) : (Int × SP) × Int × Bool :=
  if s.k = 0 then (if x.1 ∈ s.ids then (x,0,decide ((s.ids.length : Int) - 1 ≤ c.st)) else (x,1,decide ((s.ids.length : Int) ≤ c.st)))
  else if s.k = 1 then
    let b := c.bs.getD x.1.toNat (0,0,0)
    let q := uL b.2.2 (qP c.ks c.ls b.1) s.n c.er x.2
    ((x.1,q.1),0,q.2)
  else if s.k = 2 then let q := zC x.2 s.n c.sl;((x.1,q.1),0,q.2)
  else if s.k = 3 then ((x.1,(s.n,s.n + 1)),0,vQ x.2.1 x.2.2 s.n)
  else if s.k = 5 then (x,0,decide (x.1 = s.n))
  else (x,0,true)
theorem IY {α : Type} {l : List α} {i : Nat} (x : α) (h : i < l.length) : l.set i (l.getD i x) = l := by
  simp [List.getD,h]
theorem C6 {c : Cx} {w : W} {i : Nat} {s : Ev} (h : i < w.2.2.length) :
    jX c w i s = ((w.1,w.2.1 + (wL c s (gP w i,gC w i)).2.1,w.2.2.set i (wL c s (gP w i,gC w i)).1.2),(wL c s (gP w i,gC w i)).2.2) := by
  have e : w.2.2.set i (gC w i) = w.2.2 := IY _ h;unfold jX wL;split
  · split <;> simp [e]
  · split
    · simp [sC]
    · split
      · simp [sC]
      · split
        · simp [sC]
        · split <;> simp [e]
theorem HF {c : Cx} {s : Ev} {x : Int × SP} : (wL c s x).1.1 = x.1 := by
  unfold wL
  repeat' split
  all_goals rfl
def D0 (c : Cx) (s : Ev) (f f' : As) (d : Int) : Prop :=
  ((wL c s (f s.a)).2.2 = true ∧ f' = upd f s.a (wL c s (f s.a)).1 ∧ d = (wL c s (f s.a)).2.1) ∨ (s.k = 4 ∧ f' = HX f s.a s.b ∧ d = 0)
theorem tC {bs : List Int} {w : W} {f : As} (h1 : w.1.length = bs.length) (h2 : w.2.2.length = bs.length) :
    oF bs w f ↔ ∀ j (hj : j < bs.length),gP w j = (f bs[j]).1 ∧ gC w j = (f bs[j]).2 := by
  constructor
  · intro h j hj;exact ⟨AX h hj,AZ h hj⟩
  · intro h;constructor
    · refine lC (by simp [h1]) fun j hj hj' => ?_
      have := (h j (by omega)).1
      unfold gP at this;simp only [List.getD,aA hj,mQ] at this;simp [this]
    · refine lC (by simp [h2]) fun j hj hj' => ?_
      have := (h j (by omega)).2
      unfold gC at this;simp only [List.getD,aA hj,mQ] at this;simp [this]
theorem xD {bs : List Int} {a : Int} (ha : a ∈ bs) : ∃ h : bs.idxOf a < bs.length,bs[bs.idxOf a] = a := by
  have h := gS ha;exact ⟨h,List.getElem_idxOf h⟩
theorem AM {bs : List Int} (hn : bs.Nodup) {i j : Nat} (hi : i < bs.length) (hj : j < bs.length) (h : bs[i] = bs[j]) : i = j := (zQ1 hn).1 h
theorem fO {α : Type} {l : List α} {i j : Nat} {x d : α} (hj : i < l.length) : (l.set i x).getD j d = if j = i then x else l.getD j d := by
  by_cases e : j = i
  · subst e;simp [List.getD,hj]
  · rw [if_neg e];simp [List.getD,iT (Ne.symm e)]
theorem XP {c : Cx} {n : Nat} {g : G} (ok : zZ n g) {s : Ev} (ha : s.a ∈ g.1) (hb : s.k = 4 → s.b ∈ g.1 ∧ s.a ≠ s.b) {f' : As} {M : Int} :
    G6 (g.1,gJ (mF c s g)) f' M ↔ ∃ f d,D0 c s f f' d ∧ G6 g f (M - d) := by
  rw [Q4];obtain ⟨hi,hia⟩ := xD ha;have hnd := ok.nd;constructor
  · rintro ⟨v,hv,hf,hm⟩;unfold mF at hv;obtain ⟨w,hw,hv⟩ := gD.1 hv;have wo := ok.ws w hw;have h1 := wo.pl;have h2 := wo.cl;rcases bF.1 hv with hv | hv
    · split at hv
      · rename_i hok;simp only [bI] at hv;subst hv;rw [C6 (by omega)] at hok hf hm
        simp only at hok hf hm;generalize hi' : g.1.idxOf s.a = i at *;have hf' := (tC (w := (w.1,w.2.1 + (wL c s (gP w i,gC w i)).2.1,w.2.2.set i (wL c s (gP w i,gC w i)).1.2)) h1 (by simp [h2])).1 hf
        have ea : upd f' s.a (gP w i,gC w i) s.a = (gP w i,gC w i) := by unfold upd;rw [if_pos rfl]
        refine ⟨upd f' s.a (gP w i,gC w i),_,.inl ⟨by rw [ea];exact hok,?_,rfl⟩,w,hw,(tC h1 h2).2 fun j hj => ?_,by rw [ea];show w.2.1 ≤ _;omega⟩
        · rw [ea];funext b;unfold upd;by_cases e : b = s.a
          · rw [if_pos e,e];obtain ⟨q1,q2⟩ := hf' i hi;rw [hia] at q1 q2;refine Prod.ext ?_ ?_
            · rw [HF,← q1];rfl
            · rw [← q2];unfold gC;rw [fO (by omega),if_pos rfl]
          · rw [if_neg e,if_neg e]
        · obtain ⟨q1,q2⟩ := hf' j hj;unfold upd;by_cases e : g.1[j] = s.a
          · rw [if_pos e];have : j = i := AM hnd hj hi (e.trans hia.symm);subst this;exact ⟨rfl,rfl⟩
          · rw [if_neg e];refine ⟨by rw [← q1];rfl,?_⟩
            rw [← q2];unfold gC;rw [fO (by omega),if_neg]
            rintro rfl;exact e hia
      · cases hv
    · split at hv
      · rename_i hk;simp only [bI] at hv;subst hv;obtain ⟨hbm,hab⟩ := hb hk;obtain ⟨hj,hjb⟩ := xD hbm;generalize hi' : g.1.idxOf s.a = i at *;generalize hj' : g.1.idxOf s.b = k at *;have hik : i ≠ k := by rintro rfl;exact hab (hia.symm.trans hjb)
        have hf' := (tC (w := oS w i k) (by simp [oS,h1]) (by simp [oS,h2])).1 hf
        refine ⟨HX f' s.a s.b,0,.inr ⟨hk,?_,rfl⟩,w,hw,(tC h1 h2).2 fun j hj0 => ?_,by have : (oS w i k).2.1 = w.2.1 := rfl;omega⟩
        · funext x;unfold HX;by_cases e : x = s.a
          · subst e;rw [if_pos rfl,if_neg (Ne.symm hab),if_pos rfl]
          · by_cases e' : x = s.b
            · subst e';rw [if_neg e,if_pos rfl,if_pos rfl]
            · rw [if_neg e,if_neg e',if_neg e,if_neg e']
        · unfold HX;by_cases e : g.1[j] = s.a
          · rw [if_pos e];have : j = i := AM hnd hj0 hi (e.trans hia.symm);subst this;obtain ⟨q1,q2⟩ := hf' k hj;rw [hjb] at q1 q2;rw [← q1,← q2];constructor
            · unfold gP oS;simp only;rw [fO (by simp;omega),if_pos rfl];rfl
            · unfold gC oS;simp only;rw [fO (by simp;omega),if_pos rfl];rfl
          · rw [if_neg e];by_cases e' : g.1[j] = s.b
            · rw [if_pos e'];have : j = k := AM hnd hj0 hj (e'.trans hjb.symm);subst this;obtain ⟨q1,q2⟩ := hf' i hi;rw [hia] at q1 q2;rw [← q1,← q2];constructor
              · unfold gP oS;simp only;rw [fO (by simp;omega),if_neg hik,fO (by omega),if_pos rfl];rfl
              · unfold gC oS;simp only;rw [fO (by simp;omega),if_neg hik,fO (by omega),if_pos rfl];rfl
            · rw [if_neg e'];have n1 : j ≠ i := by rintro rfl;exact e hia
              have n2 : j ≠ k := by rintro rfl;exact e' hjb
              obtain ⟨q1,q2⟩ := hf' j hj0;rw [← q1,← q2];constructor
              · unfold gP oS;simp only;rw [fO (by simp;omega),if_neg n2,fO (by omega),if_neg n1]
              · unfold gC oS;simp only;rw [fO (by simp;omega),if_neg n2,fO (by omega),if_neg n1]
      · cases hv
  · rintro ⟨f,d,hst,w,hw,hf,hm⟩;have wo := ok.ws w hw;have h1 := wo.pl;have h2 := wo.cl;have hf' := (tC h1 h2).1 hf;have hxa : (gP w (g.1.idxOf s.a),gC w (g.1.idxOf s.a)) = f s.a := by
      obtain ⟨q1,q2⟩ := hf' _ hi;rw [hia] at q1 q2;exact Prod.ext q1 q2
    rcases hst with ⟨hok,rfl,rfl⟩ | ⟨hk,rfl,rfl⟩
    · refine ⟨(jX c w (g.1.idxOf s.a) s).1,gD.2 ⟨w,hw,bF.2 (.inl ?_)⟩,?_,?_⟩
      · rw [if_pos (by rw [C6 (by omega),hxa];exact hok)];exact bI.2 rfl
      · rw [C6 (by omega),hxa]
        refine (tC (bs := g.1) (w := (w.1,w.2.1 + (wL c s (f s.a)).2.1,w.2.2.set (g.1.idxOf s.a) (wL c s (f s.a)).1.2)) h1 (by simp [h2])).2 fun j hj => ?_
        obtain ⟨q1,q2⟩ := hf' j hj;unfold upd;by_cases e : g.1[j] = s.a
        · rw [if_pos e];have : j = g.1.idxOf s.a := AM hnd hj hi (e.trans hia.symm);refine ⟨?_,?_⟩
          · rw [HF];show gP w j = _;rw [q1,e]
          · unfold gC;simp only;rw [fO (by omega),if_pos this]
        · rw [if_neg e];refine ⟨q1,?_⟩;unfold gC;simp only;rw [fO (by omega),if_neg (by rintro rfl;exact e hia)]
          exact q2
      · rw [C6 (by omega),hxa];show w.2.1 + _ ≤ _;omega
    · obtain ⟨hbm,hab⟩ := hb hk;obtain ⟨hj,hjb⟩ := xD hbm;have hxb : gP w (g.1.idxOf s.b) = (f s.b).1 ∧ gC w (g.1.idxOf s.b) = (f s.b).2 := by
        obtain ⟨q1,q2⟩ := hf' _ hj;rw [hjb] at q1 q2;exact ⟨q1,q2⟩
      have hxa' : gP w (g.1.idxOf s.a) = (f s.a).1 ∧ gC w (g.1.idxOf s.a) = (f s.a).2 := by rw [← hxa];exact ⟨rfl,rfl⟩
      refine ⟨oS w (g.1.idxOf s.a) (g.1.idxOf s.b),gD.2 ⟨w,hw,bF.2 (.inr (by rw [if_pos hk];exact bI.2 rfl))⟩,?_,by show w.2.1 ≤ M;omega⟩
      generalize hi' : g.1.idxOf s.a = i at *;generalize hj' : g.1.idxOf s.b = k at *;have hik : i ≠ k := by rintro rfl;exact hab (hia.symm.trans hjb)
      refine (tC (by simp [oS,h1]) (by simp [oS,h2])).2 fun j hj0 => ?_
      unfold HX;by_cases e : g.1[j] = s.a
      · rw [if_pos e];have : j = i := AM hnd hj0 hi (e.trans hia.symm);subst this;rw [← hxb.1,← hxb.2];constructor
        · unfold gP oS;simp only;rw [fO (by simp;omega),if_neg hik,fO (by omega),if_pos rfl];rfl
        · unfold gC oS;simp only;rw [fO (by simp;omega),if_neg hik,fO (by omega),if_pos rfl];rfl
      · rw [if_neg e];by_cases e' : g.1[j] = s.b
        · rw [if_pos e'];have : j = k := AM hnd hj0 hj (e'.trans hjb.symm);subst this;rw [← hxa'.1,← hxa'.2];constructor
          · unfold gP oS;simp only;rw [fO (by simp;omega),if_pos rfl];rfl
          · unfold gC oS;simp only;rw [fO (by simp;omega),if_pos rfl];rfl
        · rw [if_neg e'];have n1 : j ≠ i := by rintro rfl;exact e hia
          have n2 : j ≠ k := by rintro rfl;exact e' hjb
          obtain ⟨q1,q2⟩ := hf' j hj0;rw [← q1,← q2];constructor
          · unfold gP oS;simp only;rw [fO (by simp;omega),if_neg n2,fO (by omega),if_neg n1]
          · unfold gC oS;simp only;rw [fO (by simp;omega),if_neg n2,fO (by omega),if_neg n1]
theorem N3 {g : G} {f f' : As} {M : Int} (h : ∀ b,b ∈ g.1 → f b = f' b) : G6 g f M ↔ G6 g f' M := by
  unfold G6 oF;rw [jI (g := fun b => (f' b).1) (fun b hb => by rw [h b hb]),jI (g := fun b => (f' b).2) (fun b hb => by rw [h b hb])]
theorem sH {f f' : As} : ∀ {gs : List G} {M : Int}, (∀ g, g ∈ gs → ∀ b, b ∈ g.1 → f b = f' b) → (Sem gs f M ↔ Sem gs f' M)
  | [],M,_ => Iff.rfl
  | g :: gs,M,h => by
    simp only [Sem,N3 (h g aS),sH (fun x hx => h x (aI _ hx))]
end Go.Ld
namespace Go.Proofs.YtmmmeebiobjnbaaGreat
open Go Go.Ab
attribute [local irreducible] VC AW cE aU
set_option maxHeartbeats 4000000
def A7 (m st er sl : Int) : Bool := decide (0 ≤ min (min (min m st) er) sl) && decide (max (max (max m st) er) sl ≤ 1048576)
theorem WE (m st er sl : Int) : aU Tryz.prog 28 [qA m st er sl] [] (.b (A7 m st er sl)) [] := by
  refine bX T Tryz.func28 rfl rfl rfl rfl ?_
  (repeat' (first|refine wS ?_|refine wR ?_|(refine rg 0 (cH (cY rfl rfl) rfl (aV ?_)))|(refine rg 1 (iP T rfl (iP T rfl (iP T rfl (iP T rfl (vV (zL7 rfl rfl rfl rfl) (vV (gV rfl rfl) (mV ?_)))))));refine bT rfl rfl ?_ ?_<;>(intro hb;rw [hb];(try simp only [nm] at hb);try (exfalso;omega));(all_goals first|(refine gT (fW T rfl (gT (lW T rfl (gT (fW T rfl (gT (lW T rfl (gT (fV T ?_)))))))));refine gT (lW T rfl (gT (fW T rfl (gT (lW T rfl (gT (vV (zL8 rfl rfl rfl rfl) (gT (vV (iC rfl rfl) ?_))))))))))|(iterate 10 refine gF ?_));(all_goals (refine pW rfl (aV ?_))))|refine nZ ?_));all_goals
    refine dH (.inl rfl) rfl (nD ?_);rw [FH];simp only [A7,aK,decide_eq_true_eq]
    first | omega | (simp;omega)
theorem YV (l : List Int) (v : Int) (hl : l.length ≤ 1000) : aU Tryz.prog 16 [.rowE (ints l) 1,.i v] [] (.b (decide (v ∈ l))) [] := by
  have hlen : (ints l).length = l.length := by simp
  refine bX T Tryz.func16 rfl rfl rfl rfl ?_
  (repeat' (first|refine wS ?_|refine wB ?_|(refine rg 0 (aV ?_))|(refine rg 1 (aV ?_))|refine nZ ?_));refine dC (X := {k : Nat // k ≤ l.length ∧ (v ∈ l ↔ v ∈ l.drop k)}) (fun k => [(0,.rowE (ints l) 1),(1,.i v),(5,.i k.1)]) (fun _ => []) (fun k => l.length - k.1) ⟨0,by simp⟩ (gM []) ?_
  rintro ⟨k,hk,hf⟩;dsimp only;by_cases hlt : k < l.length
  · repeat' (first|refine wS ?_|refine wB ?_|refine wK ?_|refine wR ?_|(refine wC rfl (fun hb => ?_) (fun hb => ?_) <;> (((try simp only [nm] at hb);try (exfalso;omega))))|(refine rg 2 (dK rfl (qW T rfl (vV (aJ rfl rfl) ?_))))|(refine rg 4 (dK rfl (vV (ix T rfl (by omega) (eB l) (kX (k := k) (by omega))) (lW T rfl (mW rfl (vV (eX rfl rfl) ?_))))))|(refine rg 5 (aV ?_))|(refine iA 3 rfl rfl rfl (by omega) (by omega) ?_)|(refine nZ ?_))
    · refine dH (.inl rfl) rfl (nD ?_);have : v ∈ l := by rw [← hb];exact aM hlt
      simp [this]
    · refine ⟨⟨k + 1,by omega,?_⟩,by dsimp only;omega,gM []⟩
      rw [hf,aT hlt];simp only [bU];exact ⟨fun h => h.resolve_left (fun e => hb e.symm),.inr⟩
  · (repeat' (first|refine wS ?_|refine wR ?_|refine wE ?_|(refine wC rfl (fun hb => ?_) (fun hb => ?_) <;> (((try simp only [nm] at hb);try (exfalso;omega))))|(refine rg 2 (dK rfl (qW T rfl (vV (aJ rfl rfl) ?_))))|(refine rg 6 (aV ?_))|(refine nZ ?_)));refine dH (.inl rfl) rfl (nD ?_)
    rw [cT (by omega)] at hf
    simp at hf;simp [hf]
structure uI (ks : List KD) (ls : List LT) (ps : List Int) (bs : List BX) : Prop where
  len : ps.length = bs.length
  p : ∀ i : Nat,i < ps.length → (i : Int) ∈ ps
  k : ∀ (i : Nat) (h : i < ks.length),0 ≤ ks[i].2 ∧ ks[i].2 ≤ 1048576
  l : ∀ (i : Nat) (h : i < ls.length),0 ≤ ls[i].1 ∧ ls[i].1 < ks.length
  b : ∀ (i : Nat) (h : i < bs.length),-1 ≤ bs[i].1 ∧ bs[i].1 < ls.length ∧ 0 ≤ bs[i].2.1 ∧ bs[i].2.1 ≤ 20000 ∧ (bs[i].1 = -1 → bs[i].2.1 = 0) ∧ 0 ≤ bs[i].2.2 ∧ bs[i].2.2 ≤ 1073741824
open Classical in
noncomputable def sO (ks : List KD) (ls : List LT) (ps : List Int) (bs : List BX) : Bool := decide (uI ks ls ps bs)
theorem vA {ks : List KD} {ls : List LT} {ps : List Int} {bs : List BX} (h : ¬ uI ks ls ps bs) : sO ks ls ps bs = false := by unfold sO;simp [h]
theorem MW {ks : List KD} {ls : List LT} {ps : List Int} {bs : List BX} (h : uI ks ls ps bs) : sO ks ls ps bs = true := by unfold sO;simp [h]
theorem zF1 (ks : List KD) (ls : List LT) (ps : List Int) (bs : List BX) (h1 : ks.length ≤ 1000) (h2 : ls.length ≤ 1000) (h3 : ps.length ≤ 1000) (h4 : bs.length ≤ 1000) :
    aU Tryz.prog 29 [.rowE (jN ks) 2,.rowE (kU ls) 3,.rowE (ints ps) 1,.rowE (fP bs) 3] [] (.b (sO ks ls ps bs)) [] := by
  have e1 : (jN ks).length = ks.length := by simp
  have e2 : (kU ls).length = ls.length := by simp
  have e3 : (ints ps).length = ps.length := by simp
  have e4 : (fP bs).length = bs.length := by simp
  refine bX T Tryz.func29 rfl rfl rfl rfl ?_
  repeat' (first|refine wS ?_|refine wB ?_|refine wK ?_|refine wR ?_|(refine wC rfl ?_ ?_<;>(intro hb;(try simp only [nm] at hb);try (exfalso;omega)))|(refine rg 0 (aV ?_))|(refine rg 1 (mW rfl (qW T rfl (mW rfl (qW T rfl (vV (fY rfl rfl) ?_))))))|(refine rg 2 (aV ?_))|(refine rg 3 (aV ?_))|refine nZ ?_)
  · (refine dH (.inl rfl) rfl (nD (vA fun h => ?_).symm);have := h.len;omega)
  have hlen : ps.length = bs.length := by omega
  refine dC (X := {k : Nat // k ≤ ps.length ∧ ∀ i : Nat,i < k → (i : Int) ∈ ps}) (fun k => [(0,.rowE (jN ks) 2),(1,.rowE (kU ls) 3),(2,.rowE (ints ps) 1),(3,.rowE (fP bs) 3),(9,.i k.1)]) (fun _ => []) (fun k => ps.length - k.1) ⟨0,by omega,fun i hi => by omega⟩ (gM []) ?_
  rintro ⟨k,hk,hp⟩;dsimp only;by_cases hlt : k < ps.length
  · repeat' (first|refine wS ?_|refine wB ?_|refine wK ?_|refine wR ?_|(refine wC rfl (fun hb => ?_) (fun hb => ?_) <;> (((try simp only [nm] at hb);try (exfalso;omega))))|(refine rg 4 (dK rfl (qW T rfl (vV (aJ rfl rfl) ?_))))|(refine rg 6 (dK rfl (vV (by exact fU rfl rfl (YV ps _ h3) rfl rfl rfl) ?_));refine vV (eM rfl) ?_)|(refine rg 7 (aV ?_))|(refine iA 5 rfl rfl rfl (by omega) (by omega) ?_)|(refine nZ ?_))
    · (refine dH (.inl rfl) rfl (nD (vA fun h => ?_).symm);exact hb (h.p k hlt))
    · refine ⟨⟨k + 1,by omega,fun i hi => ?_⟩,by dsimp only;omega,gM []⟩
      by_cases e : i = k
      · subst e;exact hb
      · exact hp i (by omega)
  have hpA : ∀ i : Nat,i < ps.length → (i : Int) ∈ ps := fun i hi => hp i (by omega)
  clear hp
  (repeat' (first|refine wS ?_|refine wB ?_|refine wE ?_|(refine wC rfl ?_ ?_<;>(intro hb;(try simp only [nm] at hb);try (exfalso;omega)))|(refine rg 4 (dK rfl (qW T rfl (vV (aJ rfl rfl) ?_))))|(refine rg 8 (aV ?_))|refine nZ ?_));refine dC (X := {k : Nat // k ≤ ks.length ∧ ∀ (i : Nat) (h : i < ks.length),i < k → 0 ≤ ks[i].2 ∧ ks[i].2 ≤ 1048576}) (fun k => [(0,.rowE (jN ks) 2),(1,.rowE (kU ls) 3),(2,.rowE (ints ps) 1),(3,.rowE (fP bs) 3),(10,.i k.1)]) (fun _ => []) (fun k => ks.length - k.1) ⟨0,by omega,fun i _ hi => by omega⟩ (gM []) ?_
  rintro ⟨k1,hk1,hq⟩;dsimp only;by_cases hlt1 : k1 < ks.length
  · (repeat' (first|refine wS ?_|refine wB ?_|refine wK ?_|refine wR ?_|refine vU rfl ?_|(refine wC rfl (fun hb => ?_) (fun hb => ?_) <;> (((try simp only [nm] at hb);try (exfalso;omega))))|(refine rg 9 (dK rfl (qW T rfl (vV (aJ rfl rfl) ?_))))|(refine rg 11 (dK rfl (vV (ix T rfl (by omega) (vM ks) (B2 (k := k1) hlt1)) (iP T rfl (vV (aJ rfl rfl) (mV ?_)))));refine bT rfl rfl (fun hb => ?_) (fun hb => ?_) <;> ((rw [hb];(try simp only [nm] at hb);try ((exfalso;omega);done)));(all_goals first|(refine gT (mW rfl (gT (mW rfl (gT (vV (ix T rfl (by omega) (vM ks) (B2 (k := k1) hlt1)) (gT (fW T rfl (gT (lV T ?_)))))))));refine gT (vV (fB rfl rfl) ?_))|(iterate 6 refine gF ?_));(all_goals (refine pV ?_)))|(refine rg 12 (aV ?_))|(refine iA 10 rfl rfl rfl (by omega) (by omega) ?_)|(refine nZ ?_)));all_goals first
      | (refine dH (.inl rfl) rfl (nD (vA fun h => ?_).symm);have := h.k k1 hlt1;omega)
      | (refine ⟨⟨k1 + 1, by omega, fun i hi hik => ?_⟩, by dsimp only; omega, gM []⟩
         by_cases e : i = k1
         · subst e;omega
         · exact hq i hi (by omega))
  have hkA : ∀ (i : Nat) (h : i < ks.length),0 ≤ ks[i].2 ∧ ks[i].2 ≤ 1048576 := fun i hi => hq i hi (by omega)
  clear hq
  (repeat' (first|refine wS ?_|refine wB ?_|refine wE ?_|(refine wC rfl ?_ ?_<;>(intro hb;(try simp only [nm] at hb);try (exfalso;omega)))|(refine rg 9 (dK rfl (qW T rfl (vV (aJ rfl rfl) ?_))))|(refine rg 13 (aV ?_))|refine nZ ?_));refine dC (X := {k : Nat // k ≤ ls.length ∧ ∀ (i : Nat) (h : i < ls.length),i < k → 0 ≤ ls[i].1 ∧ ls[i].1 < ks.length}) (fun k => [(0,.rowE (jN ks) 2),(1,.rowE (kU ls) 3),(2,.rowE (ints ps) 1),(3,.rowE (fP bs) 3),(11,.i k.1)]) (fun _ => []) (fun k => ls.length - k.1) ⟨0,by omega,fun i _ hi => by omega⟩ (gM []) ?_
  rintro ⟨k2,hk2,hq⟩;dsimp only;by_cases hlt2 : k2 < ls.length
  · (repeat' (first|refine wS ?_|refine wB ?_|refine wK ?_|refine wR ?_|refine vU rfl ?_|(refine wC rfl (fun hb => ?_) (fun hb => ?_) <;> (((try simp only [nm] at hb);try (exfalso;omega))))|(refine rg 14 (dK rfl (qW T rfl (vV (aJ rfl rfl) ?_))))|(refine rg 16 (dK rfl (vV (ix T rfl (by omega) (zF ls) (I4 (k := k2) hlt2)) (iP T rfl (vV (aJ rfl rfl) (mV ?_)))));refine bT rfl rfl (fun hb => ?_) (fun hb => ?_) <;> ((rw [hb];(try simp only [nm] at hb);try ((exfalso;omega);done)));(all_goals first|(refine gT (mW rfl (gT (mW rfl (gT (vV (ix T rfl (by omega) (zF ls) (I4 (k := k2) hlt2)) (gT (fW T rfl (gT (lV T ?_)))))))));refine gT (mW rfl (gT (qW T rfl (gT (vV (gV rfl rfl) ?_))))))|(iterate 8 refine gF ?_));(all_goals (refine pV ?_)))|(refine rg 17 (aV ?_))|(refine iA 15 rfl rfl rfl (by omega) (by omega) ?_)|(refine nZ ?_)));all_goals first
      | (refine dH (.inl rfl) rfl (nD (vA fun h => ?_).symm);have := h.l k2 hlt2;omega)
      | (refine ⟨⟨k2 + 1, by omega, fun i hi hik => ?_⟩, by dsimp only; omega, gM []⟩
         by_cases e : i = k2
         · subst e;omega
         · exact hq i hi (by omega))
  have hlA : ∀ (i : Nat) (h : i < ls.length),0 ≤ ls[i].1 ∧ ls[i].1 < ks.length := fun i hi => hq i hi (by omega)
  clear hq
  (repeat' (first|refine wS ?_|refine wB ?_|refine wE ?_|(refine wC rfl ?_ ?_<;>(intro hb;(try simp only [nm] at hb);try (exfalso;omega)))|(refine rg 14 (dK rfl (qW T rfl (vV (aJ rfl rfl) ?_))))|(refine rg 18 (aV ?_))|refine nZ ?_));refine dC (X := {k : Nat // k ≤ bs.length ∧ ∀ (i : Nat) (h : i < bs.length),i < k → -1 ≤ bs[i].1 ∧ bs[i].1 < ls.length ∧ 0 ≤ bs[i].2.1 ∧ bs[i].2.1 ≤ 20000 ∧ (bs[i].1 = -1 → bs[i].2.1 = 0) ∧ 0 ≤ bs[i].2.2 ∧ bs[i].2.2 ≤ 1073741824}) (fun k => [(0,.rowE (jN ks) 2),(1,.rowE (kU ls) 3),(2,.rowE (ints ps) 1),(3,.rowE (fP bs) 3),(12,.i k.1)]) (fun _ => []) (fun k => bs.length - k.1) ⟨0,by omega,fun i _ hi => by omega⟩ (gM []) ?_
  rintro ⟨k3,hk3,hq⟩;dsimp only;by_cases hlt3 : k3 < bs.length
  · (repeat' (first|refine wS ?_|refine wB ?_|refine wK ?_|refine wR ?_|refine vU rfl ?_|(refine wC rfl (fun hb => ?_) (fun hb => ?_) <;> (((try simp only [nm] at hb);try (exfalso;omega))))|(refine rg 19 (dK rfl (qW T rfl (vV (aJ rfl rfl) ?_))))|(refine rg 21 (dK rfl (vV (ix T rfl (by omega) (rB bs) (EV (k := k3) hlt3)) (lW T rfl (cH (cK T rfl) rfl (bA T rfl rfl rfl rfl rfl rfl (by decide) rfl ?_))))))|(refine rg 22 (iP T rfl (vV (aJ rfl rfl) (mV ?_)));refine bT rfl rfl (fun hb => ?_) (fun hb => ?_) <;> ((rw [hb];(try simp only [nm] at hb);try ((exfalso;omega);done)));(all_goals first|(refine gT (fW T rfl (gT (lW T rfl (gT (mW rfl (gT (qW T rfl (gT (vV (gV rfl rfl) ?_))))))))))|(iterate 5 refine gF ?_));(all_goals (refine pW rfl (mV ?_)));(all_goals first|(refine gK ?_)|(refine bT rfl rfl (fun hb => ?_) (fun hb => ?_) <;> ((rw [hb];(try simp only [nm] at hb);try ((exfalso;omega);done)))));(all_goals first|(refine gT (fW T rfl (gT (lW T rfl (gT (vV (aJ rfl rfl) ?_))))))|(iterate 3 refine gF ?_));(all_goals (refine pW rfl (mV ?_)));(all_goals first|(refine gK ?_)|(refine bT rfl rfl (fun hb => ?_) (fun hb => ?_) <;> ((rw [hb];(try simp only [nm] at hb);try ((exfalso;omega);done)))));(all_goals first|(refine gT (fW T rfl (gT (lW T rfl (gT (vV (fB rfl rfl) ?_))))))|(iterate 3 refine gF ?_));(all_goals (refine pW rfl (mV ?_)));(all_goals first|(refine gK ?_)|(refine bT rfl rfl (fun hb => ?_) (fun hb => ?_) <;> ((rw [hb];(try simp only [nm] at hb);try ((exfalso;omega);done)))));(all_goals first|(refine gT (fW T rfl (gT (lW T rfl (gT (vV (eX rfl rfl) (gT (mV ?_))))))))|(iterate 4 refine gF ?_));(all_goals first|(refine gK ?_)|(refine bT rfl rfl (fun hb => ?_) (fun hb => ?_) <;> ((rw [hb];(try simp only [nm] at hb);try ((exfalso;omega);done)))));(all_goals first|(refine gT (fW T rfl (gT (lW T rfl (gT (vV (fY rfl rfl) ?_))))))|((iterate 3 first|refine gF ?_|refine gU ?_)));(all_goals first|(refine gT (pV ?_))|(refine gF ?_));(all_goals (refine pW rfl (mV ?_)));(all_goals first|(refine gK ?_)|(refine bT rfl rfl (fun hb => ?_) (fun hb => ?_) <;> ((rw [hb];(try simp only [nm] at hb);try ((exfalso;omega);done)))));(all_goals first|(refine gT (fW T rfl (gT (lW T rfl (gT (vV (aJ rfl rfl) ?_))))))|(iterate 3 refine gF ?_));(all_goals (refine pW rfl (mV ?_)));(all_goals first|(refine gK ?_)|(refine bT rfl rfl (fun hb => ?_) (fun hb => ?_) <;> ((rw [hb];(try simp only [nm] at hb);try ((exfalso;omega);done)))));(all_goals first|(refine gT (fW T rfl (gT (lW T rfl (gT (vV (fB rfl rfl) ?_))))))|(iterate 3 refine gF ?_));(all_goals (refine pV ?_)))|(refine rg 23 (aV ?_))|(refine iA 20 rfl rfl rfl (by omega) (by omega) ?_)|(refine nZ ?_)));all_goals first
      | (refine dH (.inl rfl) rfl (nD (vA fun h => ?_).symm);have := h.b k3 hlt3;omega)
      | (refine ⟨⟨k3 + 1, by omega, fun i hi hik => ?_⟩, by dsimp only; omega, gM []⟩
         by_cases e : i = k3
         · subst e;omega
         · exact hq i hi (by omega))
  (repeat' (first|refine wS ?_|refine wR ?_|refine wE ?_|(refine wC rfl ?_ ?_<;>(intro hb;(try simp only [nm] at hb);try (exfalso;omega)))|(refine rg 19 (dK rfl (qW T rfl (vV (aJ rfl rfl) ?_))))|(refine rg 24 (aV ?_))|refine nZ ?_));refine dH (.inl rfl) rfl (nD (MW ?_).symm)
  exact ⟨hlen,hpA,hkA,hlA,fun i hi => hq i hi (by omega)⟩
abbrev wP (ks : List KD) (ls : List LT) (ps : List Int) (bs : List BX) : AV := .agg [.rowE (jN ks) 2,.rowE (kU ls) 3,.rowE (ints ps) 1,.rowE (fP bs) 3]
def yK1 (ks : List KD) (ls : List LT) (ps : List Int) (bs : List BX) : Prop := 1 ≤ ps.length ∧ ps.length ≤ 8 ∧ bs.length ≤ 8 ∧ ks.length ≤ 10 ∧ ls.length ≤ 10
theorem zW5 {ks : List KD} {ls : List LT} {ps : List Int} {bs : List BX} (h : yK1 ks ls ps bs) (ht : sO ks ls ps bs = true) : zZ6 ks ls ps bs := by
  have ht : uI ks ls ps bs := by
    unfold sO at ht;simpa using ht
  obtain ⟨h1,h2,h3,h4,h5⟩ := h;exact ⟨h1,h2,ht.len,h4,h5,ht.k,ht.l,fun i hi => AD ps.length ps rfl ht.p _ (aM hi),ht.b⟩
theorem SE {m st er sl : Int} (h : A7 m st er sl = true) : nO m st er sl := by
  simp only [A7,aK,decide_eq_true_eq] at h;unfold nO;omega
theorem yX {n f t : Int} (h : f ≤ n ∧ n ≤ t) : aU Tryz.prog 40 [.i n,.i f,.i t] [] (.b true) [] := by
  have := sJ n f t
  rwa [show iW n f t = true by simp [iW,h]] at this
theorem HI {l : List Int} {n : Int} {i : Nat} (h : i < l.length) (hn : ¬ T0 l n i) : HJ l n = false := by
  unfold HJ;simp only [decide_eq_false_iff_not];exact fun hh => hn (hh i h)
theorem BP {l : List Int} {n : Int} (h : ∀ i,i < l.length → T0 l n i) : HJ l n = true := by
  unfold HJ;simp only [decide_eq_true_eq];exact h
theorem QM {l : List Int} {k : Nat} (h : k < l.length) : l.getD k 0 = l[k] := by simp [List.getD,h]
theorem EZ (l : List Int) (n : Int) (hl : l.length ≤ 9223372036854775807) (hn : 0 ≤ n ∧ n ≤ 1000) : aU Tryz.prog 41 [.rowE (ints l) 1,.i n] [] (.b (HJ l n)) [] := by
  have hlen : (ints l).length = l.length := by simp
  refine bX T Tryz.func41 rfl rfl rfl rfl ?_
  (repeat' (first|refine wS ?_|refine wB ?_|(refine rg 0 (aV ?_))|(refine rg 1 (mW rfl (qW T rfl (mV ?_))))|refine nZ ?_));refine dC (X := {k : Nat // k ≤ l.length ∧ ∀ i,i < k → T0 l n i}) (fun k => [(0,.rowE (ints l) 1),(1,.i n),(7,.rowE (ints l) 1),(8,.i (ints l).length),(9,.i k.1)]) (fun _ => []) (fun k => l.length - k.1) ⟨0,by omega,fun i hi => by omega⟩ (gM []) ?_
  rintro ⟨k,hk,hq⟩;dsimp only;by_cases hlt : k < l.length
  · have hg := QM hlt;cases hw : iW l[k] 0 (n - 1)
    · have c := hw ▸ sJ l[k] 0 (n - 1);have hno : ¬ T0 l n k := fun h => by
        unfold T0 at h;rw [hg] at h;rw [show iW l[k] 0 (n - 1) = true by simp [iW];omega] at hw
        cases hw
      (repeat' (first|refine wS ?_|refine wB ?_|refine wK ?_|refine wR ?_|refine wT ?_|(refine wC rfl ?_ ?_<;>(intro hb;(try simp only [nm] at hb);try (exfalso;omega)))|(refine rg 2 (vV (aJ rfl rfl) ?_))|(refine rg 3 (mW rfl (vV (ix T rfl (by omega) (eB l) (kX (k := k) hlt)) (lW T rfl (uV ?_)))))|(refine rg 4 (dK rfl (vV (cX rfl rfl (by omega) (by omega)) (vV (kC (c)) (vV (eM rfl) (mV ?_)))));(iterate 3 refine gF ?_);(iterate 7 refine gU ?_);refine gF (pV ?_))|(refine rg 5 (aV ?_))|refine nZ ?_));exact dH (.inl rfl) rfl (nD (HI hlt hno).symm)
    · have c := hw ▸ sJ l[k] 0 (n - 1);simp only [iW,aK,decide_eq_true_eq] at hw;by_cases hk0 : 0 < k
      · have hlt' : k - 1 < l.length := by omega
        have hg' := QM hlt';have hc' : (ints l)[((k : Int) - 1).toNat]? = some [AV.i l[k - 1]] := by rw [show ((k : Int) - 1).toNat = k - 1 by omega];exact kX hlt'
        (repeat' (first|refine wS ?_|refine wB ?_|refine wK ?_|refine wR ?_|(refine wC rfl ?_ ?_<;>(intro hb;(try simp only [nm] at hb);try (exfalso;omega)))|(refine rg 2 (vV (aJ rfl rfl) ?_))|(refine rg 3 (mW rfl (vV (ix T rfl (by omega) (eB l) (kX (k := k) hlt)) (lW T rfl (uV ?_)))))|(refine rg 4 (dK rfl (vV (cX rfl rfl (by omega) (by omega)) (vV (kC (c)) (vV (eM rfl) (mW rfl (yN rfl (yV (fB rfl rfl) (yM ?_))))))));refine bT rfl rfl ?_ ?_<;>(intro hb;rw [hb];(try simp only [nm] at hb);try (exfalso;omega));(all_goals (refine yN rfl (yN rfl (yN rfl (yV (cX rfl rfl (by omega) (by omega)) (yV (ix T rfl (by omega) (eB l) hc') (yO T rfl (yV (iC rfl rfl) (gT (pW rfl (pV ?_))))))))))))|(refine rg 5 (aV ?_))|(refine rg 6 (vV (cJ rfl rfl (by omega) (by omega)) (mV ?_)))|refine nZ ?_));all_goals first
          | (exfalso;omega)
          | (refine dH (.inl rfl) rfl (nD (HI hlt (fun h => ?_)).symm);unfold T0 at h;rw [hg,hg'] at h;omega)
          | (refine ⟨⟨k + 1, by omega, fun i hi => ?_⟩, by dsimp only; omega, gM []⟩
             by_cases e : i = k
             · subst e;unfold T0;rw [hg,hg'];omega
             · exact hq i (by omega))
      · obtain rfl : k = 0 := by omega
        (repeat' (first|refine wS ?_|refine wB ?_|refine wK ?_|refine wU ?_|(refine wC rfl ?_ ?_<;>(intro hb;(try simp only [nm] at hb);try (exfalso;omega)))|(refine rg 2 (vV (aJ rfl rfl) ?_))|(refine rg 3 (mW rfl (vV (ix T rfl (by omega) (eB l) (kX (k := 0) hlt)) (lW T rfl (uV ?_)))))|(refine rg 4 (dK rfl (vV (cX rfl rfl (by omega) (by omega)) (vV (kC (c)) (vV (eM rfl) (mW rfl (yN rfl (yV (fB rfl rfl) (yM ?_))))))));(iterate 7 refine gF ?_);refine gT (pW rfl (pV ?_)))|(refine rg 6 (vV (cJ rfl rfl (by omega) (by omega)) (mV ?_)))|refine nZ ?_));all_goals first
          | (exfalso;omega)
          | (refine ⟨⟨1, by omega, fun i hi => ?_⟩, by dsimp only; omega, gM []⟩
             obtain rfl : i = 0 := by omega
             unfold T0;rw [hg];omega)
  · (repeat' (first|refine wS ?_|refine wR ?_|refine wE ?_|(refine wC rfl (fun hb => ?_) (fun hb => ?_) <;> (((try simp only [nm] at hb);try (exfalso;omega))))|(refine rg 2 (vV (aJ rfl rfl) ?_))|(refine rg 7 (aV ?_))|(refine nZ ?_)));exact dH (.inl rfl) rfl (nD (BP fun i hi => hq i (by omega)).symm)
theorem bN (l : List Int) : ∀ e,e ∈ ints l → AV.idfL e = true := by
  intro e he;obtain ⟨i,_,rfl⟩ := bB.1 he;rfl
section
variable {ks : List KD} {ls : List LT} {ps : List Int} {bs : List BX} {m st er sl k a b n id lot ct ta done : Int} {ids : List Int} {M : Int}
end
section
variable {P : Program} {env : dW} {h : Hp} {d : Option Nat} {ty : TypeId} {pos : String} {af : Array Edge} {g : Option (Nat × Bool)}
end
section
variable {ks : List KD} {ls : List LT} {ps : List Int} {bs : List BX} {m st er sl k a b n id lot ct ta done : Int} {ids : List Int} {M : Int}
end
end Go.Proofs.YtmmmeebiobjnbaaGreat
namespace Go.Proofs.YtmmmeebiobjnbaaGreat
open Go Go.Ab Go.Shelf Go.Proofs
shelf_lay Lays.n189 Nm 189 at Tryz as laysSort
theorem MY (l : List Int) (hl : l.length ≤ 17592186043904) : aU Tryz.prog 52 [.sl 0 0 l.length 1] [.arr (ints l) 1] (.tup []) [.arr (ints (iG l)) 1] :=
  OR ⟨_,Tryz.func52,by kernel_rfl,by kernel_rfl⟩ (fun blk off cap zs w h1 h2 h3 => Any.slices_Sort_int laysSort blk off cap zs w h1 h2 h3) (fun p cap w => Any.slices_Sort_int_none laysSort p cap w) l hl
end Go.Proofs.YtmmmeebiobjnbaaGreat
namespace Go.Proofs.YtmmmeebiobjnbaaGreat
open Go Go.Ab
attribute [local irreducible] VC AW cE aU AY VY CE
set_option maxHeartbeats 4000000
theorem HB (l : List Int) (hl : l.length ≤ 17592186043904) : aU Tryz.prog 45 [.rowE (ints l) 1] [] (.sl 0 0 l.length 1) [.arr (ints l) 1] := by
  have hll : (ints l).length = l.length := by simp
  refine bX T Tryz.func45 rfl rfl rfl rfl ?_
  repeat' (first|refine wS ?_|refine wK ?_|refine wT ?_|refine wU ?_|(refine rg 0 (aV ?_))|(refine rg 1 (mV ?_);refine sN T rfl rfl rfl rfl fun b hb=>?_;cases b)|refine nZ ?_)
  · (repeat' (first|refine wR ?_|(refine rg 3 (cH (by exact bD T rfl rfl (by decide) (by decide) rfl rfl rfl) rfl ?_);refine mW rfl (fR T rfl rfl rfl rfl rfl rfl (by decide) (.row (eB l)) (I7 l) (by simp;omega) (by simp;omega) rfl ?_);refine aV ?_)|(refine nZ ?_)));exact ⟨.inl rfl,[1],_,rfl,(by show AV.sl 1 0 (0 + (ints l).length) 1 = AV.sl 1 0 l.length 1;simp),rfl,⟨.inr (aC rfl rfl (bN _)),trivial⟩,by decide,CG⟩
  · have hl0 : l = [] := fA.1 (Classical.byContradiction fun h => by have := hb (by omega);cases this)
    subst hl0
    (repeat' (first|refine wR ?_|(refine rg 2 (vV (dJ rfl) (nG 2 1 rfl (by decide) ?_)))|refine nZ ?_));exact ⟨.inl rfl,[0],_,rfl,rfl,rfl,⟨.inr (aC rfl rfl (bN _)),trivial⟩,by decide,CG⟩
abbrev zE4 (l : List Int) : AV := .clo (.func 107) [] [.pr [.rowE (ints l) 1] 0]
theorem X0 (l : List Int) : aU Tryz.prog 71 [.rowE (ints l) 1] [] (zE4 l) [] := by
  refine OU rfl ?_;refine bX T Tryz.func71 rfl rfl rfl rfl ?_
  (repeat' (first|refine wS ?_|refine wR ?_|(refine rg 0 (cH (cY rfl rfl) rfl (aV ?_)))|(refine rg 1 (vV (by exact kT rfl rfl) ?_);refine aV ?_)|refine nZ ?_));exact ⟨.inl rfl,[0],_,rfl,rfl,rfl,⟨.inr rfl,trivial⟩,by decide,CG⟩
def zS5 (l : List Int) (k : Nat) : List AV := match l[k]? with
  | some x => [.i x]
  | none => []
theorem FJ {l : List Int} {k : Nat} (h : k < l.length) : zS5 l k = [.i l[k]] := by unfold zS5;rw [aA h]
theorem RT (l : List Int) (hl : l.length ≤ 17592186043904) : CE Tryz.prog 107 [] [.pr [.rowE (ints l) 1] 0] [] (zS5 l) l.length := by
  have hll : (ints l).length = l.length := by simp
  refine zR8 T Tryz.func107 rfl rfl rfl rfl ?_;intro J A y hJ hy
  (repeat' (first|(first|(refine xN ?_)|(refine zQ ?_))|(((refine qS hJ (eS (id := 0) ?_)));(all_goals (refine lV T ?_;(refine qV T ?_);refine mV ?_)))|refine nZ ?_));refine HG (X := {k : Nat // k ≤ l.length}) (fun k => [(0,.clo (.yield y) [] []),(5,.rowE (ints l) 1),(6,.i (ints l).length),(7,.i (k.1 : Int))]) (fun _ => []) (fun k => (k.1,false)) (fun k => l.length - k.1) ⟨0,bY _⟩ rfl (gM []) ?_
  rintro ⟨k,hkl⟩;dsimp only;by_cases hk : k < l.length
  · have hit := FJ hk;have q1 : (ints l)[(k : Int).toNat]? = some [AV.i l[k]] := by rw [bM,bL,aA hk];rfl
    generalize l[k] = x at *
    (repeat' (first|(first|(refine xN ?_)|(refine zQ ?_)|(refine V9 ?_)|(refine ZZ ?_))|((refine xO rfl (fun hb=>?_) (fun hb=>?_)<;>(((try simp only [nm] at hb);try ((exfalso;omega);done)))))|(((refine qS hJ (eS (id := 1) ?_)));(all_goals (refine vV (aJ rfl rfl) ?_)))|(((refine qS hJ (eS (id := 2) ?_)));(all_goals (refine vV (ix T rfl (by omega) (eB _) q1) ?_;refine lV T ?_;refine aV ?_)))|(((refine EX (id := 3) ?_));((refine VF 2 hJ ?_));(dsimp only [List.take,List.drop]);(all_goals (refine yI6 ?_;refine iF ?_;refine IE hJ hy rfl rfl rfl hk hit rfl ?_));(all_goals (intro yes));(all_goals (refine zQ5 hJ ?_;refine vV (eM rfl) ?_;refine T7 (by ((dsimp only [List.nil_append,List.cons_append,List.append_nil,List.length_cons,List.length_nil,List.set_cons_zero,List.set_cons_succ,List.map_cons,List.map_nil,kD,mM,mP,rU,MV,E9,X6,X4,X3,X5,E8,F1,E7,F0,Nat.zero_add,Nat.add_zero,Nat.reduceAdd,Bool.not_true,Bool.not_false];done))) ?_)))|(((refine qS hJ (eS (id := 4) ?_)));(all_goals (refine vV (cJ rfl rfl (by omega) (by omega)) ?_;refine mV ?_)))|refine nZ ?_));all_goals first | (exfalso;omega) | skip
    · exact ⟨.inl rfl,fun h => (by first | (subst hb;cases h) | (cases h;done)),[],rfl⟩
    · obtain rfl := hb;exact ⟨⟨k + 1,hk⟩,by dsimp only;omega,rfl,gM []⟩
  · (repeat' (first|(first|(refine xN ?_)|(refine HH ?_))|((refine xO rfl (fun hb => ?_) (fun hb => ?_) <;> (((try simp only [nm] at hb);try ((exfalso;omega);done)))))|(((refine qS hJ (eS (id := 1) ?_)));(all_goals (refine vV (aJ rfl rfl) ?_)))|(refine T7 (by ((dsimp only [List.nil_append,List.cons_append,List.append_nil,List.length_cons,List.length_nil,List.set_cons_zero,List.set_cons_succ,List.map_cons,List.map_nil,kD,mM,mP,rU,MV,E9,X6,X4,X3,X5,E8,F1,E7,F0,Nat.zero_add,Nat.add_zero,Nat.reduceAdd,Bool.not_true,Bool.not_false];done))) ?_)));all_goals first | (exfalso;omega) | skip
    exact ⟨.inr rfl,fun _ => by show k = _;omega,[],rfl⟩
abbrev yI5 (l : List Int) : Hp := [.cells [.sl 1 0 l.length 1],.arr (ints l) 1]
theorem yF6 : ∀ i : Nat,i < 1 → ([0,3] : List Nat)[i]? = some i := by decide
theorem LY (l : List Int) (hl : l.length ≤ 17592186043904) : aU Tryz.prog 141 [.nils,zE4 l] [] (.sl 0 0 l.length 1) [.arr (ints l) 1] := by
  have hit := RT l hl;refine bX T Tryz.func141 rfl rfl rfl rfl ?_
  (repeat' (first|refine wS ?_|refine wB ?_|(refine rg 0 (cH (cY rfl rfl) rfl (aV ?_)))|(refine rg 1 (mV ?_))|refine nZ ?_));refine nX 0 0 1 rfl rfl (by decide) ?_
  refine LU [] [0,1] [(2,.ptr 0 0)] (fun k => yI5 (l.take k)) 1 rfl hit rfl rfl rfl trivial eP rfl ⟨rfl,trivial⟩ ⟨.inr rfl,.inr rfl,trivial⟩ (by decide) (CG) (by simp) (bY _) (aG rfl) rfl (by decide) (fun k hk => by rw [FJ hk];exact ⟨rfl,rfl⟩) ?_ ?_
  · intro k hk;rw [FJ hk];have hks := aP hk;have hkl : (l.take k).length ≤ l.length := List.length_take_le' _ _;generalize l.take k = K at hks hkl ⊢;generalize l[k] = x at *;refine eS (id := 2) ?_;refine vV (by exact dJ rfl) ?_
    refine iF ?_;refine ⟨rfl,?_⟩
    repeat' (first|refine wB ?_|(refine rg 3 (lW T rfl (mW rfl (cH (by exact bD T rfl rfl (by decide) (by decide) rfl rfl rfl) rfl ?_)));refine fR T rfl rfl rfl rfl rfl rfl (by simp) (iY.whole rfl rfl) rfl (by simp;omega) (by simp;omega) rfl ?_;refine bA T rfl rfl rfl rfl rfl rfl (by decide) rfl ?_)|refine nZ ?_)
    show HY _ _ _ _ (yI5 (l.take (k + 1)));rw [hks];exact ⟨[0,3],rfl,trivial,⟨.inr (by simp;rfl),.inr (aC rfl (by simp;exact bS (by simp)) (bN _)),trivial⟩,by decide,yF6⟩
  · have e : l.take l.length = l := cM;rw [e]
    (repeat' (first|refine wS ?_|refine wR ?_|(refine rg 4 (lW T rfl (aV ?_)))|refine nZ ?_));exact ⟨.inl rfl,[1],_,rfl,rfl,rfl,⟨.inr (aC rfl rfl (bN _)),trivial⟩,by decide,CG⟩
theorem UK (l : List Int) (hl : l.length ≤ 17592186043904) : aU Tryz.prog 106 [zE4 l] [] (.sl 0 0 l.length 1) [.arr (ints l) 1] := by
  have h1 := LY l hl;have hrf := QF l;refine bX T Tryz.func106 rfl rfl rfl rfl ?_
  (repeat' (first|refine wS ?_|refine wR ?_|(refine rg 0 (aV ?_))|(refine rg 1 (mW rfl (cH (by exact fQ rfl rfl h1 (.inr ⟨rfl,rfl,by simp⟩)) rfl ?_));refine aV ?_)|refine nZ ?_));exact ⟨.inl rfl,[0],_,rfl,rfl,rfl,⟨.inr (aC rfl (AR _ _) (bN _)),trivial⟩,by decide,CG⟩
theorem IS (l : List Int) (hl : l.length ≤ 17592186043904) : aU Tryz.prog 70 [zE4 l] [] (.rowE (ints (iG l)) 1) [] := by
  refine kE (by simp [wQ] : l.length = (ints (iG l)).length) (TO _) ?_
  have h1 := UK l hl;have h2 := MY l hl;have hrf := QF l;generalize iG l = B at *;refine bX T Tryz.func70 rfl rfl rfl rfl ?_
  (repeat' (first|refine wS ?_|refine wR ?_|(refine rg 0 (aV ?_))|(refine rg 1 (mW rfl (cH (by exact fQ rfl rfl h1 (.inr ⟨rfl,rfl,by simp⟩)) rfl ?_));refine aV ?_)|(refine rg 2 (mW rfl (eA [0] rfl rfl h2 rfl rfl (by decide) ⟨.inr (aC rfl (AR _ _) (bN _)),trivial⟩ (by simp) rfl ?_)))|(refine rg 3 (mW rfl (aV ?_)))|refine nZ ?_));exact ⟨.inl rfl,[0],_,rfl,rfl,rfl,⟨.inr (aC rfl (AR _ _) (bN _)),trivial⟩,by decide,CG⟩
end Go.Proofs.YtmmmeebiobjnbaaGreat
namespace Go.Pm
structure Rt (p : List Nat) : Prop where
  nd : p.Nodup
  lt : ∀ x,x ∈ p → x < p.length
abbrev mA (p : List Nat) (i : Nat) : Nat := p.getD i 0
theorem nL {p : List Nat} {i : Nat} (h : i < p.length) : mA p i = p[i] := by
  rw [mA,aD,aA h];rfl
theorem Rt.ltAt {p : List Nat} (r : Rt p) {i : Nat} (h : i < p.length) : mA p i < p.length := by
  rw [nL h];exact r.lt _ (aM h)
theorem Rt.inj {p : List Nat} (r : Rt p) {i j : Nat} (hi : i < p.length) (hj : j < p.length) (e : mA p i = mA p j) : i = j := by
  rw [nL hi,nL hj] at e;have h := kV.1 r.nd;rcases Nat.lt_trichotomy i j with h1 | h1 | h1
  · exact absurd e (h i j hi hj h1)
  · exact h1
  · exact absurd e.symm (h j i hj hi h1)
theorem Rt.mem {p : List Nat} (r : Rt p) {x : Nat} (h : x < p.length) : x ∈ p := by
  apply Classical.byContradiction;intro hx;have h1 : (x :: p).Nodup := fI.2 ⟨hx,r.nd⟩
  have := h1.length_le_of_subset (l₂ := List.range p.length) (fun y hy => by
    rw [fF];rcases bU.1 hy with rfl | hy
    · exact h
    · exact r.lt y hy)
  simp at this;omega
theorem yB1 {p : List Nat} (h1 : ∀ i,i < p.length → mA p i < p.length) (h2 : ∀ i j,i < p.length → j < p.length → mA p i = mA p j → i = j) : Rt p := by
  refine ⟨?_,fun x hx => ?_⟩
  · rw [List.Nodup,kV];intro i j hi hj hij e;have := h2 i j hi hj (by rw [nL hi,nL hj];exact e)
    omega
  · obtain ⟨i,hi,rfl⟩ := nS.1 hx;rw [← nL hi];exact h1 i hi
theorem zW7 {p q : List Nat} (hl : p.length = q.length) (h : ∀ i,i < p.length → mA p i = mA q i) : p = q := by
  refine lC hl fun i h1 h2 => ?_
  have := h i h1
  rwa [nL h1,nL h2] at this
theorem zY2 {f : Nat → Nat} {l : List Nat} {i : Nat} (h : i < l.length) : mA (l.map f) i = f (mA l i) := by
  rw [nL (by simpa using h),nL h];simp
theorem zA6 {l : List Nat} {i j v : Nat} (h : i < l.length) : mA (l.set i v) j = if i = j then v else mA l j := by
  rw [mA,aD,gQ];by_cases e : i = j
  · rw [if_pos e,if_pos e,if_pos h];rfl
  · rw [if_neg e,if_neg e,mA,aD]
def comp (p q : List Nat) : List Nat := q.map (mA p)
theorem oT (p q : List Nat) : (comp p q).length = q.length := aY _
theorem V8 {p q : List Nat} {i : Nat} (h : i < q.length) : mA (comp p q) i = mA p (mA q i) := zY2 h
def HX (p : List Nat) (a b : Nat) : List Nat := (p.set a (mA p b)).set b (mA p a)
theorem A4 (p : List Nat) (a b : Nat) : (HX p a b).length = p.length := by simp [HX]
theorem X7 {p : List Nat} {a b i : Nat} (ha : a < p.length) (hb : b < p.length) : mA (HX p a b) i = if b = i then mA p a else if a = i then mA p b else mA p i := by
  unfold HX;rw [zA6 (by simpa using hb),zA6 ha]
theorem zT2 {p : List Nat} (r : Rt p) {a b : Nat} (ha : a < p.length) (hb : b < p.length) : Rt (HX p a b) := by
  refine yB1 (fun i hi => ?_) (fun i j hi hj e => ?_)
  · rw [A4] at hi ⊢;rw [X7 ha hb];split
    · exact r.ltAt ha
    · split
      · exact r.ltAt hb
      · exact r.ltAt hi
  · rw [A4] at hi hj;rw [X7 ha hb,X7 ha hb] at e;by_cases h1 : b = i
    · subst h1;rw [if_pos rfl] at e;by_cases h2 : b = j
      · exact h2
      · rw [if_neg h2] at e;by_cases h3 : a = j
        · rw [if_pos h3] at e;have := r.inj ha hb e;omega
        · rw [if_neg h3] at e;exact absurd (r.inj ha hj e) h3
    · rw [if_neg h1] at e;by_cases h2 : b = j
      · subst h2;rw [if_pos rfl] at e;by_cases h3 : a = i
        · rw [if_pos h3] at e;have := r.inj hb ha e;omega
        · rw [if_neg h3] at e;exact absurd (r.inj hi ha e).symm h3
      · rw [if_neg h2] at e;by_cases h3 : a = i
        · rw [if_pos h3] at e;by_cases h4 : a = j
          · omega
          · rw [if_neg h4] at e;exact absurd (r.inj hb hj e) h2
        · rw [if_neg h3] at e;by_cases h4 : a = j
          · rw [if_pos h4] at e;exact absurd (r.inj hi hb e).symm h1
          · rw [if_neg h4] at e;exact r.inj hi hj e
theorem VQ {p q : List Nat} {a b : Nat} (ha : a < q.length) (hb : b < q.length) : comp p (HX q a b) = HX (comp p q) a b := by
  refine zW7 (by simp [oT,A4]) fun i hi => ?_
  rw [oT,A4] at hi;rw [V8 (by rw [A4];exact hi),X7 ha hb,X7 (by rw [oT];exact ha) (by rw [oT];exact hb),V8 ha,V8 hb,V8 hi]
  split
  · rfl
  · split <;> rfl
inductive Sw (x : List Nat) : Bool → List Nat → Prop
  | refl : Sw x false x
  | swap {b : Bool} {y : List Nat} {i j : Nat} : Sw x b y → i < x.length → j < x.length → i ≠ j → Sw x (!b) (HX y i j)
theorem Sw.len {x y : List Nat} {b : Bool} (h : Sw x b y) : y.length = x.length := by
  induction h with
  | refl => rfl
  | swap _ _ _ _ ih => rw [A4];exact ih
theorem Sw.rt {x y : List Nat} {b : Bool} (h : Sw x b y) (r : Rt x) : Rt y := by
  induction h with
  | refl => exact r
  | swap h' h1 h2 _ ih => exact zT2 ih (by rw [h'.len];exact h1) (by rw [h'.len];exact h2)
theorem Sw.comp {p x y : List Nat} {b : Bool} (h : Sw x b y) : Sw (comp p x) b (comp p y) := by
  induction h with
  | refl => exact .refl
  | swap h' h1 h2 h3 ih =>
    rw [VQ (by rw [h'.len];exact h1) (by rw [h'.len];exact h2)]
    exact .swap ih (by rw [oT];exact h1) (by rw [oT];exact h2) h3
abbrev bt (s : List Bool) (i : Nat) : Bool := s.getD i false
theorem zX7 {s : List Bool} {i j : Nat} {v : Bool} (h : i < s.length) : bt (s.set i v) j = if i = j then v else bt s j := by
  rw [bt,aD,gQ];by_cases e : i = j
  · rw [if_pos e,if_pos e,if_pos h];rfl
  · rw [if_neg e,if_neg e,bt,aD]
def zO2 (p : List Nat) : Nat → List Bool → List Nat → Nat → List Bool × List Nat
  | 0,sn,c,_ => (sn,c)
  | f + 1,sn,c,k => if bt sn k then (sn,c) else zO2 p f (sn.set k true) (c ++ [k]) (mA p k)
def UI (p : List Nat) : Nat → List Bool × List (List Nat)
  | 0 => (List.replicate p.length false,[])
  | i + 1 => ((zO2 p p.length (UI p i).1 [] i).1,if 1 < (zO2 p p.length (UI p i).1 [] i).2.length then (UI p i).2 ++ [(zO2 p p.length (UI p i).1 [] i).2] else (UI p i).2)
def yG9 (p : List Nat) : List (List Nat) := (UI p p.length).2
structure CI (p : List Nat) (sn0 : List Bool) (i : Nat) (sn : List Bool) (c : List Nat) (k : Nat) : Prop where
  len : sn.length = p.length
  nd : c.Nodup
  lt : ∀ x,x ∈ c → x < p.length
  sn : ∀ x,x < p.length → (bt sn x = true ↔ bt sn0 x = true ∨ x ∈ c)
  new : ∀ x,x ∈ c → bt sn0 x = false
  z : c = [] → k = i
  hd : c ≠ [] → mA c 0 = i
  nx : c ≠ [] → k = mA p (mA c (c.length - 1))
  st : ∀ j,j + 1 < c.length → mA c (j + 1) = mA p (mA c j)
  k : k < p.length
theorem W4 {c : List Nat} {k j : Nat} : mA (c ++ [k]) j = if j < c.length then mA c j else if j = c.length then k else 0 := by
  rw [mA,aD];by_cases h : j < c.length
  · rw [if_pos h,aH h,mA,aD]
  · rw [if_neg h,aE (by omega)]
    by_cases h2 : j = c.length
    · rw [if_pos h2,h2];simp
    · rw [if_neg h2];rw [cQ (by simp;omega)];rfl
theorem CI.step {p : List Nat} (r : Rt p) {sn0 sn : List Bool} {i k : Nat} {c : List Nat} (h : CI p sn0 i sn c k) (hb : bt sn k = false) : CI p sn0 i (sn.set k true) (c ++ [k]) (mA p k) := by
  have hk := h.k;have hkc : ¬ (bt sn0 k = true ∨ k ∈ c) := fun q => by rw [(h.sn k hk).2 q] at hb;cases hb
  refine ⟨by simp [h.len],?_,fun x hx => ?_,fun x hx => ?_,fun x hx => ?_,fun e => by simp at e,fun _ => ?_,fun _ => ?_,fun j hj => ?_,r.ltAt hk⟩
  · rw [cN];exact ⟨h.nd,by simp,fun a ha b hb e => by simp at hb;subst hb;subst e;exact hkc (.inr ha)⟩
  · rcases bF.1 hx with hx | hx
    · exact h.lt x hx
    · simp at hx;subst hx;exact hk
  · rw [zX7 (by rw [h.len];exact hk)]
    by_cases e : k = x
    · subst e;simp
    · rw [if_neg e,h.sn x hx];simp [Ne.symm e]
  · rcases bF.1 hx with hx | hx
    · exact h.new x hx
    · simp at hx;subst hx;rw [← eO];exact fun q => hkc (.inl q)
  · rw [W4];cases c with
    | nil => simp;exact h.z rfl
    | cons a c => simp;exact h.hd (by simp)
  · simp [W4]
  · simp at hj;rw [W4,W4,if_pos hj];by_cases e : j + 1 < c.length
    · rw [if_pos e];exact h.st j e
    · rw [if_neg e,if_pos (by omega)]
      have := h.nx (by intro q;subst q;simp at hj)
      rw [this,show c.length - 1 = j by omega]
structure yK2 (p : List Nat) (c : List Nat) : Prop where
  ne : c ≠ []
  nd : c.Nodup
  lt : ∀ x,x ∈ c → x < p.length
  st : ∀ j,j < c.length → mA p (mA c j) = mA c ((j + 1) % c.length)
theorem CI.fin {p : List Nat} (r : Rt p) {sn0 sn : List Bool} {i k : Nat} {c : List Nat} (h : CI p sn0 i sn c k) (hcl : ∀ x,x < p.length → bt sn0 (mA p x) = true → bt sn0 x = true) (hb : bt sn k = true) (hc : c ≠ []) : yK2 p c := by
  have hc0 : 0 < c.length := fJ.2 hc;have hlast : mA c (c.length - 1) ∈ c := by rw [nL (by omega)];exact aM _
  have hki : k = mA c 0 := by
    have hnx := h.nx hc;rcases (h.sn k h.k).1 hb with h1 | h1
    · rw [hnx] at h1;have := hcl _ (h.lt _ hlast) h1;rw [h.new _ hlast] at this;cases this
    · obtain ⟨j,hj,e⟩ := nS.1 h1;rw [← nL hj] at e;cases j with
      | zero => exact e.symm
      | succ j =>
        have h2 := h.st j hj;rw [e,hnx] at h2;have hjm : mA c j ∈ c := by rw [nL (by omega)];exact aM _
        have h3 := r.inj (h.lt _ hlast) (h.lt _ hjm) h2;rw [nL (by omega),nL (by omega)] at h3
        have hp := kV.1 h.nd;exact absurd h3.symm (hp j (c.length - 1) (by omega) (by omega) (by omega))
  refine ⟨hc,h.nd,h.lt,fun j hj => ?_⟩
  by_cases e : j + 1 < c.length
  · rw [Nat.mod_eq_of_lt e,h.st j e]
  · have : j = c.length - 1 := by omega
    rw [show j + 1 = c.length by omega,Nat.mod_self,← hki,h.nx hc,this]
theorem AM {c : List Nat} (h : c.Nodup) {i j : Nat} (hi : i < c.length) (hj : j < c.length) (e : mA c i = mA c j) : i = j := by
  rw [nL hi,nL hj] at e;have h := kV.1 h;rcases Nat.lt_trichotomy i j with h1 | h1 | h1
  · exact absurd e (h i j hi hj h1)
  · exact h1
  · exact absurd e.symm (h j i hj hi h1)
def yG2 : Nat → Nat
  | 0 => 1
  | n + 1 => yG2 n * (n + 1)
abbrev Up (l : List Nat) : Prop := l.Pairwise (· < ·)
theorem Rt.perm {p : List Nat} (r : Rt p) : p.Perm (List.range p.length) :=
  (List.perm_ext_iff_of_nodup r.nd zQ0).2 fun x => by rw [fF];exact ⟨r.lt x,r.mem⟩
end Go.Pm
namespace Go.Pm
open Go.Ab
def permB (p : List Int) : Bool := decide (iG p = nats (List.range p.length))
theorem le_tr : ∀ (a b c : Int),decide (a ≤ b) = true → decide (b ≤ c) = true → decide (a ≤ c) = true := fun a b c h1 h2 => by simp at *;omega
theorem zV2 : ∀ (a b : Int),(decide (a ≤ b) || decide (b ≤ a)) = true := fun a b => by simp;omega
theorem sorted_perm (p : List Int) : (iG p).Perm p := List.mergeSort_perm _ _
theorem sorted_up (p : List Int) : (iG p).Pairwise (fun a b => a ≤ b) :=
  (CA le_tr zV2 p).imp (fun h => by simpa using h)
theorem sorted_eq {p q : List Int} (h : p.Perm q) (hq : q.Pairwise (fun a b => a ≤ b)) : iG p = q :=
  List.Perm.eq_of_pairwise (le := fun a b => a ≤ b) (fun a b _ _ h1 h2 => by omega) (sorted_up p) hq ((sorted_perm p).trans h)
theorem range_le (n : Nat) : (nats (List.range n)).Pairwise (fun a b => a ≤ b) :=
  List.Pairwise.map _ (fun a b h => by omega) (CO (n := n))
end Go.Pm
namespace Go.Ab
open Go
section
variable {P : Program}
end
end Go.Ab
namespace Go.Proofs.YtmmmeebiobjnbaaGreat
open Go Go.Ab
attribute [local irreducible] VC AW cE aU
set_option maxHeartbeats 4000000
theorem lB {θ : Nat → Nat} {f : Fn} {caps : List AV} (hi : AV.idfL caps = true) : (AV.clo f [] caps).map θ = .clo f [] caps := by
  show AV.clo f (AV.mapL θ []) (AV.mapL θ caps) = _;rw [rO θ caps hi];rfl
theorem YN {w : List KD} {F : FuncId} {caps : List AV} (hl : w.length ≤ 1000) (hi : AV.idfL caps = true) (hF : ∀ x,x ∈ w → aU Tryz.prog F (.agg [AV.v (.string x.1),AV.i x.2] :: caps) [] (.b false) []) :
    aU Tryz.prog 108 [.rowE (jN w) 2,.clo (.func F) [] caps] [] (.i (-1)) [] := by
  have hlen : (jN w).length = w.length := by simp
  refine bX T Tryz.func108 rfl rfl rfl rfl ?_
  (repeat' (first|refine wS ?_|refine wB ?_|(refine rg 0 (aV ?_))|(refine rg 1 (mW rfl (qW T rfl (mV ?_))))|refine nZ ?_));refine dC (X := {k : Nat // k ≤ w.length}) (fun k => [(0,.rowE (jN w) 2),(1,.clo (.func F) [] caps),(7,.i (jN w).length),(8,.i k.1)]) (fun _ => []) (fun k => w.length - k.1) ⟨0,by simp⟩ ⟨[],rfl,⟨rfl,by rw [lB hi];rfl,rfl,rfl,trivial⟩,trivial,eP,fun _ h => absurd h (eJ _)⟩ ?_
  rintro ⟨k,hk⟩;dsimp only;by_cases hlt : k < w.length
  · have hc := hF w[k] (aM hlt);have hg := B2 (l := w) hlt;generalize w[k] = y at *
    (repeat' (first|refine wS ?_|refine wB ?_|refine wK ?_|refine wU ?_|(refine wC rfl ?_ ?_<;>(intro hb;(try simp only [nm] at hb);try (exfalso;omega)))|(refine rg 2 (vV (aJ rfl rfl) ?_))|(refine rg 3 (mW rfl (aV ?_)))|(refine rg 4 (dK rfl (mW rfl (vV (ix T rfl (by omega) (vM w) hg) (lW T rfl (vV (by exact fU rfl rfl hc rfl (by simp [AV.idfL,AV.idf,hi]) rfl) ?_))))))|(refine rg 6 (vV (cJ rfl rfl (by omega) (by omega)) (mV ?_)))|refine nZ ?_));all_goals first | (exfalso;omega) | exact ⟨⟨k + 1,hlt⟩,by dsimp only;omega,⟨[],rfl,⟨rfl,by rw [lB hi];rfl,rfl,rfl,trivial⟩,trivial,eP,fun _ h => absurd h (eJ _)⟩⟩
  · (repeat' (first|refine wS ?_|refine wR ?_|refine wE ?_|(refine wC rfl (fun hb => ?_) (fun hb => ?_) <;> (((try simp only [nm] at hb);try (exfalso;omega))))|(refine rg 2 (vV (aJ rfl rfl) ?_))|(refine rg 7 (aV ?_))|(refine nZ ?_)));all_goals first | (exfalso;omega) | exact rQ
theorem zV7 {w : List KD} {F : FuncId} {caps : List AV} (hl : w.length ≤ 1000) (hi : AV.idfL caps = true) (hF : ∀ x,x ∈ w → aU Tryz.prog F (.agg [AV.v (.string x.1),AV.i x.2] :: caps) [] (.b false) []) :
    aU Tryz.prog 72 [.rowE (jN w) 2,.clo (.func F) [] caps] [] (.b false) [] := by
  have hc := YN hl hi hF;refine bX T Tryz.func72 rfl rfl rfl rfl ?_
  (repeat' (first|refine wS ?_|refine wR ?_|(refine rg 0 (aV ?_))|(refine rg 1 (dK rfl (vV (by exact fU rfl rfl hc rfl (by simp [AV.idfL,AV.idf,hi]) rfl) ?_));refine vV (gV rfl rfl) (aV ?_))|refine nZ ?_));all_goals first | (exfalso;omega) | exact rQ
theorem YM {w : List LT} {F : FuncId} {caps : List AV} (hl : w.length ≤ 1000) (hi : AV.idfL caps = true) (hF : ∀ x,x ∈ w → aU Tryz.prog F (.agg [AV.i x.1,AV.i x.2.1,AV.b x.2.2] :: caps) [] (.b false) []) :
    aU Tryz.prog 109 [.rowE (kU w) 3,.clo (.func F) [] caps] [] (.i (-1)) [] := by
  have hlen : (kU w).length = w.length := by simp
  refine bX T Tryz.func109 rfl rfl rfl rfl ?_
  (repeat' (first|refine wS ?_|refine wB ?_|(refine rg 0 (aV ?_))|(refine rg 1 (mW rfl (qW T rfl (mV ?_))))|refine nZ ?_));refine dC (X := {k : Nat // k ≤ w.length}) (fun k => [(0,.rowE (kU w) 3),(1,.clo (.func F) [] caps),(7,.i (kU w).length),(8,.i k.1)]) (fun _ => []) (fun k => w.length - k.1) ⟨0,by simp⟩ ⟨[],rfl,⟨rfl,by rw [lB hi];rfl,rfl,rfl,trivial⟩,trivial,eP,fun _ h => absurd h (eJ _)⟩ ?_
  rintro ⟨k,hk⟩;dsimp only;by_cases hlt : k < w.length
  · have hc := hF w[k] (aM hlt);have hg := I4 (l := w) hlt;generalize w[k] = y at *
    (repeat' (first|refine wS ?_|refine wB ?_|refine wK ?_|refine wU ?_|(refine wC rfl ?_ ?_<;>(intro hb;(try simp only [nm] at hb);try (exfalso;omega)))|(refine rg 2 (vV (aJ rfl rfl) ?_))|(refine rg 3 (mW rfl (aV ?_)))|(refine rg 4 (dK rfl (mW rfl (vV (ix T rfl (by omega) (zF w) hg) (lW T rfl (vV (by exact fU rfl rfl hc rfl (by simp [AV.idfL,AV.idf,hi]) rfl) ?_))))))|(refine rg 6 (vV (cJ rfl rfl (by omega) (by omega)) (mV ?_)))|refine nZ ?_));all_goals first | (exfalso;omega) | exact ⟨⟨k + 1,hlt⟩,by dsimp only;omega,⟨[],rfl,⟨rfl,by rw [lB hi];rfl,rfl,rfl,trivial⟩,trivial,eP,fun _ h => absurd h (eJ _)⟩⟩
  · (repeat' (first|refine wS ?_|refine wR ?_|refine wE ?_|(refine wC rfl (fun hb => ?_) (fun hb => ?_) <;> (((try simp only [nm] at hb);try (exfalso;omega))))|(refine rg 2 (vV (aJ rfl rfl) ?_))|(refine rg 7 (aV ?_))|(refine nZ ?_)));all_goals first | (exfalso;omega) | exact rQ
theorem zV6 {w : List LT} {F : FuncId} {caps : List AV} (hl : w.length ≤ 1000) (hi : AV.idfL caps = true) (hF : ∀ x,x ∈ w → aU Tryz.prog F (.agg [AV.i x.1,AV.i x.2.1,AV.b x.2.2] :: caps) [] (.b false) []) :
    aU Tryz.prog 74 [.rowE (kU w) 3,.clo (.func F) [] caps] [] (.b false) [] := by
  have hc := YM hl hi hF;refine bX T Tryz.func74 rfl rfl rfl rfl ?_
  (repeat' (first|refine wS ?_|refine wR ?_|(refine rg 0 (aV ?_))|(refine rg 1 (dK rfl (vV (by exact fU rfl rfl hc rfl (by simp [AV.idfL,AV.idf,hi]) rfl) ?_));refine vV (gV rfl rfl) (aV ?_))|refine nZ ?_));all_goals first | (exfalso;omega) | exact rQ
theorem YO {w : List BX} {F : FuncId} {caps : List AV} (hl : w.length ≤ 1000) (hi : AV.idfL caps = true) (hF : ∀ x,x ∈ w → aU Tryz.prog F (.agg [AV.i x.1,AV.i x.2.1,AV.i x.2.2] :: caps) [] (.b false) []) :
    aU Tryz.prog 110 [.rowE (fP w) 3,.clo (.func F) [] caps] [] (.i (-1)) [] := by
  have hlen : (fP w).length = w.length := by simp
  refine bX T Tryz.func110 rfl rfl rfl rfl ?_
  (repeat' (first|refine wS ?_|refine wB ?_|(refine rg 0 (aV ?_))|(refine rg 1 (mW rfl (qW T rfl (mV ?_))))|refine nZ ?_));refine dC (X := {k : Nat // k ≤ w.length}) (fun k => [(0,.rowE (fP w) 3),(1,.clo (.func F) [] caps),(7,.i (fP w).length),(8,.i k.1)]) (fun _ => []) (fun k => w.length - k.1) ⟨0,by simp⟩ ⟨[],rfl,⟨rfl,by rw [lB hi];rfl,rfl,rfl,trivial⟩,trivial,eP,fun _ h => absurd h (eJ _)⟩ ?_
  rintro ⟨k,hk⟩;dsimp only;by_cases hlt : k < w.length
  · have hc := hF w[k] (aM hlt);have hg := EV (l := w) hlt;generalize w[k] = y at *
    (repeat' (first|refine wS ?_|refine wB ?_|refine wK ?_|refine wU ?_|(refine wC rfl ?_ ?_<;>(intro hb;(try simp only [nm] at hb);try (exfalso;omega)))|(refine rg 2 (vV (aJ rfl rfl) ?_))|(refine rg 3 (mW rfl (aV ?_)))|(refine rg 4 (dK rfl (mW rfl (vV (ix T rfl (by omega) (rB w) hg) (lW T rfl (vV (by exact fU rfl rfl hc rfl (by simp [AV.idfL,AV.idf,hi]) rfl) ?_))))))|(refine rg 6 (vV (cJ rfl rfl (by omega) (by omega)) (mV ?_)))|refine nZ ?_));all_goals first | (exfalso;omega) | exact ⟨⟨k + 1,hlt⟩,by dsimp only;omega,⟨[],rfl,⟨rfl,by rw [lB hi];rfl,rfl,rfl,trivial⟩,trivial,eP,fun _ h => absurd h (eJ _)⟩⟩
  · (repeat' (first|refine wS ?_|refine wR ?_|refine wE ?_|(refine wC rfl (fun hb => ?_) (fun hb => ?_) <;> (((try simp only [nm] at hb);try (exfalso;omega))))|(refine rg 2 (vV (aJ rfl rfl) ?_))|(refine rg 7 (aV ?_))|(refine nZ ?_)));all_goals first | (exfalso;omega) | exact rQ
theorem zW0 {w : List BX} {F : FuncId} {caps : List AV} (hl : w.length ≤ 1000) (hi : AV.idfL caps = true) (hF : ∀ x,x ∈ w → aU Tryz.prog F (.agg [AV.i x.1,AV.i x.2.1,AV.i x.2.2] :: caps) [] (.b false) []) :
    aU Tryz.prog 76 [.rowE (fP w) 3,.clo (.func F) [] caps] [] (.b false) [] := by
  have hc := YO hl hi hF;refine bX T Tryz.func76 rfl rfl rfl rfl ?_
  (repeat' (first|refine wS ?_|refine wR ?_|(refine rg 0 (aV ?_))|(refine rg 1 (dK rfl (vV (by exact fU rfl rfl hc rfl (by simp [AV.idfL,AV.idf,hi]) rfl) ?_));refine vV (gV rfl rfl) (aV ?_))|refine nZ ?_));all_goals first | (exfalso;omega) | exact rQ
theorem VK (x : KD) (h : 0 ≤ x.2 ∧ x.2 ≤ 1048576) : aU Tryz.prog 73 [.agg [AV.v (.string x.1),AV.i x.2]] [] (.b false) [] := by
  have hw := yX (n := x.2) (f := 0) (t := 1048576) h;refine bX T Tryz.func73 rfl rfl rfl rfl ?_
  (repeat' (first|refine wS ?_|refine wR ?_|(refine rg 0 (cH (cY rfl rfl) rfl (aV ?_)))|(refine rg 1 (iP T rfl (vV (kC (hw)) (vV (eM rfl) (aV ?_)))))|refine nZ ?_));all_goals first | (exfalso;omega) | exact rQ
theorem VJ (ks : List KD) (x : LT) (h : 0 ≤ x.1 ∧ x.1 < ks.length) (hk : ks.length ≤ 1000) : aU Tryz.prog 75 [.agg [AV.i x.1,AV.i x.2.1,AV.b x.2.2],.pr [.rowE (jN ks) 2] 0] [] (.b false) [] := by
  have e1 : (jN ks).length = ks.length := by simp
  have hw := yX (n := x.1) (f := 0) (t := ((jN ks).length : Int) - 1) (by omega)
  refine bX T Tryz.func75 rfl rfl rfl rfl ?_
  (repeat' (first|refine wS ?_|refine wR ?_|(refine rg 0 (cH (cY rfl rfl) rfl (aV ?_)))|(refine rg 1 (iP T rfl (lW T rfl (qW T rfl (vV (cX rfl rfl (by omega) (by omega)) (vV (kC (hw)) (vV (eM rfl) (aV ?_))))))))|refine nZ ?_));all_goals first | (exfalso;omega) | exact rQ
theorem VL (ls : List LT) (x : BX) (h : -1 ≤ x.1 ∧ x.1 < ls.length ∧ 0 ≤ x.2.1 ∧ x.2.1 ≤ 20000 ∧ (x.1 = -1 → x.2.1 = 0) ∧ 0 ≤ x.2.2 ∧ x.2.2 ≤ 1073741824) (hk : ls.length ≤ 1000) : aU Tryz.prog 77 [.agg [AV.i x.1,AV.i x.2.1,AV.i x.2.2],.pr [.rowE (kU ls) 3] 0] [] (.b false) [] := by
  have e1 : (kU ls).length = ls.length := by simp
  obtain ⟨lot,ct,ta⟩ := x;dsimp only at h ⊢;have h1 := yX (n := lot) (f := -1) (t := ((kU ls).length : Int) - 1) (by omega)
  have h2 := yX (n := ct) (f := 0) (t := 20000) (by omega)
  have h3 := yX (n := ta) (f := 0) (t := 1073741824) (by omega)
  refine bX T Tryz.func77 rfl rfl rfl rfl ?_
  (repeat' (first|refine wS ?_|refine wR ?_|(refine rg 0 (cH (cY rfl rfl) rfl (aV ?_)))|(refine rg 1 (iP T rfl (lW T rfl (qW T rfl (vV (cX rfl rfl (by omega) (by omega)) (vV (kC (h1)) (vV (eM rfl) (mW rfl (yP T rfl (yL T ?_)))))))));refine yV (kC (h2)) (yV (eM rfl) (pW rfl (mW rfl (yP T rfl (yO T rfl (yV (aJ rfl rfl) (yM ?_)))))));refine bT rfl rfl ?_ ?_<;>(intro hb;rw [hb];(try simp only [nm] at hb);try (exfalso;omega));(all_goals first|(refine gT (fW T rfl (gT (lW T rfl (gT (vV (fB rfl rfl) ?_))))))|(iterate 3 refine gF ?_));(all_goals (refine gT (pW rfl (pW rfl (mV ?_)))));(all_goals first|(refine gK ?_)|(refine bT rfl rfl ?_ ?_<;>(intro hb;rw [hb];(try simp only [nm] at hb);try (exfalso;omega))));(all_goals (refine yP T rfl (yO T rfl (yV (kC (h3)) (yV (eM rfl) (pW rfl (aV ?_))))))))|refine nZ ?_));all_goals first | (exfalso;omega) | exact rQ
theorem AC : ∀ (l m : List Int), l.Nodup → (∀ x, x ∈ l → x ∈ m) → m.length ≤ l.length → l.Perm m
  | [],m,_,_,hl => by
    have : m = [] := fA.1 (by simpa using hl)
    subst this;exact List.Perm.refl _
  | x :: l,m,hn,hs,hl => by
    have hx := hs x (by simp)
    have h2 := List.perm_cons_erase hx
    have h3 := AC l (m.erase x) (fI.1 hn).2 (fun y hy => by
      have hyx : y ≠ x := fun e => (fI.1 hn).1 (e ▸ hy);exact (lY hyx).2 (hs y (aI _ hy))) (by
        rw [lG hx];simp only [List.length_cons] at hl
        omega)
    exact (List.Perm.cons x h3).trans h2.symm
theorem FO {n : Nat} {ps : List Int} (hl : ps.length = n) (h : ∀ i : Nat,i < n → (i : Int) ∈ ps) : iG ps = Go.Ab.nats (List.range n) := by
  have hnd : (Go.Ab.nats (List.range n)).Nodup := List.Pairwise.map _ (fun a b hab e => hab (by omega)) zQ0
  have hsub : ∀ x,x ∈ Go.Ab.nats (List.range n) → x ∈ ps := fun x hx => by
    obtain ⟨i,hi,rfl⟩ := bB.1 hx;exact h i (fF.1 hi)
  have hp : (Go.Ab.nats (List.range n)).Perm ps := AC (Go.Ab.nats (List.range n)) ps hnd hsub (by simp [hl])
  exact Go.Pm.sorted_eq hp.symm (Go.Pm.range_le n)
theorem SM (n : Nat) : HJ (Go.Ab.nats (List.range n)) n = true := by
  refine BP fun i hi => ?_
  have hi' : i < n := by simpa using hi
  have e : ∀ k,k < n → (Go.Ab.nats (List.range n)).getD k 0 = (k : Int) := fun k hk => by
    rw [aD];simp [hk]
  unfold T0;rw [e i hi'];refine ⟨by omega,by omega,fun h0 => ?_⟩
  rw [e (i - 1) (by omega)];omega
theorem FP {ks : List KD} {ls : List LT} {ps : List Int} {bs : List BX} (t : uI ks ls ps bs) (h1 : ks.length ≤ 1000) (h2 : ls.length ≤ 1000) (h3 : ps.length ≤ 1000) :
    aU Tryz.prog 49 [.rowE (jN ks) 2,.rowE (kU ls) 3,.rowE (ints ps) 1,.rowE (fP bs) 3] [] (.b true) [] := by
  have e3 : (ints ps).length = ps.length := by simp
  have e4 : (fP bs).length = bs.length := by simp
  have hlen := t.len;have v1 := X0 ps;have v2 := IS ps (by omega)
  rw [FO (n := ps.length) rfl t.p] at v2;have v3 := EZ (Go.Ab.nats (List.range ps.length)) ps.length (by simp;omega) (by omega)
  rw [SM] at v3;rw [show (ps.length : Int) = ((fP bs).length : Int) by omega] at v3
  have c1 := zV7 (w := ks) (F := 73) (caps := []) h1 rfl (fun x hx => by
    obtain ⟨i,hi,rfl⟩ := nS.1 hx
    exact VK _ (t.k i hi))
  have c2 := zV6 (w := ls) (F := 75) (caps := [.pr [.rowE (jN ks) 2] 0]) h2 rfl (fun x hx => by
    obtain ⟨i,hi,rfl⟩ := nS.1 hx
    exact VJ ks _ (t.l i hi) h1)
  have c3 := zW0 (w := bs) (F := 77) (caps := [.pr [.rowE (kU ls) 3] 0]) (by omega) rfl (fun x hx => by
    obtain ⟨i,hi,rfl⟩ := nS.1 hx
    exact VL ls _ (t.b i hi) h2)
  generalize Go.Ab.nats (List.range ps.length) = sr at *;refine bX T Tryz.func49 rfl rfl rfl rfl ?_
  (repeat' (first|refine wS ?_|refine wK ?_|refine wU ?_|(refine rg 0 (cH (cY rfl rfl) rfl (cH (cY rfl rfl) rfl (aV ?_))))|(refine rg 1 (mW rfl (vV (kC (v1)) (vV (by exact fU rfl rfl v2 rfl rfl rfl) ?_)));refine aV ?_)|(refine rg 2 (mW rfl (qW T rfl (mW rfl (qW T rfl (vV (V6 rfl rfl (by omega)) (mW rfl (yN rfl (yN rfl (gT ?_)))))))));refine qW T rfl (yV (kC (v3)) (yV (eM rfl) (pV ?_))))|refine nZ ?_));all_goals try (exfalso;omega)
  (repeat' (first|refine wS ?_|refine wR ?_|(refine rg 4 (lW T rfl (vV (by exact fU rfl rfl c1 rfl rfl rfl) ?_));refine aV ?_)|(refine rg 5 (dK rfl (yO T rfl (yV (by exact kT rfl rfl) ?_)));refine yV (by exact eW rfl rfl c2 (.cons (.row _ _ _) (.cons (.clo .nil (.cons (.ptr rfl (.cons (.row _ _ _) .nil)) .nil)) .nil)) rfl rfl) ?_;refine pW rfl (aV ?_))|(refine rg 6 (mW rfl (vV (eM rfl) (mW rfl (yN rfl (yV (by exact kT rfl rfl) ?_)))));refine yV (by exact eW rfl rfl c3 (.cons (.row _ _ _) (.cons (.clo .nil (.cons (.ptr rfl (.cons (.row _ _ _) .nil)) .nil)) .nil)) rfl rfl) ?_;refine yV (eM rfl) (pW rfl (aV ?_)))|refine nZ ?_));all_goals first | (exfalso;omega) | exact rQ
end Go.Proofs.YtmmmeebiobjnbaaGreat
namespace Go.Ab
open Go
section
variable {P : Program} {env : dW} {h : Hp} {d : Option Nat} {ty : TypeId} {pos : String} {af : Array Edge} {g : Option (Nat × Bool)}
end
end Go.Ab
namespace Go.Proofs.YtmmmeebiobjnbaaGreat
open Go Go.Ab
attribute [local irreducible] VC AW cE aU
set_option maxHeartbeats 4000000
end Go.Proofs.YtmmmeebiobjnbaaGreat
namespace Go.Proofs.YtmmmeebiobjnbaaGreat
open Go Go.Ab
section
variable {P : Program} {env : dW} {h : Hp} {d : Option Nat} {ty : TypeId} {pos : String} {af : Array Edge} {g : Option (Nat × Bool)}
theorem zM1 {t t2 : TypeId} {x y : Operand} {a b : Int} (hx : evu env x = some (.i a)) (hy : evu env y = some (.i b)) (e : b < a) : cE P ⟨d,.binOp .gtr t x y t2,ty,pos,af,g⟩ env h 0 (fun _ => .b true) (fun _ => []) := by
  have := fB (P := P) (d := d) (ty := ty) (pos := pos) (af := af) (g := g) (h := h) (t := t) (t2 := t2) hx hy;simpa [show decide (a > b) = true from decide_eq_true (by omega)] using this
theorem GQ {t t2 : TypeId} {x y : Operand} {a b : Int} (hx : evu env x = some (.i a)) (hy : evu env y = some (.i b)) (e : a ≤ b) : cE P ⟨d,.binOp .gtr t x y t2,ty,pos,af,g⟩ env h 0 (fun _ => .b false) (fun _ => []) := by
  have := fB (P := P) (d := d) (ty := ty) (pos := pos) (af := af) (g := g) (h := h) (t := t) (t2 := t2) hx hy;simpa [show decide (a > b) = false from decide_eq_false (by omega)] using this
theorem zL9 {t t2 : TypeId} {x y : Operand} {a b : Int} (hx : evu env x = some (.i a)) (hy : evu env y = some (.i b)) (e : a < b) : cE P ⟨d,.binOp .lss t x y t2,ty,pos,af,g⟩ env h 0 (fun _ => .b true) (fun _ => []) := by
  have := aJ (P := P) (d := d) (ty := ty) (pos := pos) (af := af) (g := g) (h := h) (t := t) (t2 := t2) hx hy;simpa [show decide (a < b) = true from decide_eq_true (by omega)] using this
theorem zM0 {t t2 : TypeId} {x y : Operand} {a b : Int} (hx : evu env x = some (.i a)) (hy : evu env y = some (.i b)) (e : b ≤ a) : cE P ⟨d,.binOp .lss t x y t2,ty,pos,af,g⟩ env h 0 (fun _ => .b false) (fun _ => []) := by
  have := aJ (P := P) (d := d) (ty := ty) (pos := pos) (af := af) (g := g) (h := h) (t := t) (t2 := t2) hx hy;simpa [show decide (a < b) = false from decide_eq_false (by omega)] using this
end
end Go.Proofs.YtmmmeebiobjnbaaGreat
namespace Go.Proofs.YtmmmeebiobjnbaaGreat
open Go Go.Ab Go.Ld
attribute [local irreducible] VC AW cE aU
set_option maxHeartbeats 4000000
theorem EC (x : Int) : aU Tryz.prog 132 [.i x] [] (.b false) [] := by
  refine bX T Tryz.func132 rfl rfl rfl rfl ?_
  (repeat' (first|refine wS ?_|refine wR ?_|(refine rg 0 (aV ?_))|(refine rg 1 (dK rfl (vV (fY rfl rfl) (aV ?_))))|refine nZ ?_));all_goals first | (exfalso;omega) | exact dH (.inl rfl) rfl (nD (by simp))
theorem ET (x y : Int) : aU Tryz.prog 96 [.i x,.i y] [] (.i (cI x y)) [] := by
  by_cases h1 : x < y
  · rw [show cI x y = -1 by unfold cI;rw [if_pos h1]]
    refine bX T Tryz.func96 rfl rfl rfl rfl ?_
    (repeat' (first|refine wS ?_|refine wK ?_|refine wR ?_|refine wU ?_|(refine wC rfl ?_ ?_<;>(intro hb;(try simp only [nm] at hb);try (exfalso;omega)))|(refine rg 0 (aV ?_))|(refine rg 1 (mW rfl (vV (kC (EC x)) (aV ?_))))|(refine rg 2 (mW rfl (vV (kC (EC y)) (aV ?_))))|(refine rg 3 (mV ?_))|(refine rg 7 (mV ?_))|(refine rg 9 (dK rfl (vV (aJ rfl rfl) ?_)))|(refine rg 10 (aV ?_))|refine nZ ?_));all_goals first | (exfalso;omega) | exact rQ
  · by_cases h2 : y < x
    · rw [show cI x y = 1 by unfold cI;rw [if_neg h1,if_pos h2]]
      refine bX T Tryz.func96 rfl rfl rfl rfl ?_
      (repeat' (first|refine wS ?_|refine wK ?_|refine wR ?_|refine wU ?_|(refine wC rfl ?_ ?_<;>(intro hb;(try simp only [nm] at hb);try (exfalso;omega)))|(refine rg 0 (aV ?_))|(refine rg 1 (mW rfl (vV (kC (EC x)) (aV ?_))))|(refine rg 2 (mW rfl (vV (kC (EC y)) (aV ?_))))|(refine rg 3 (mV ?_))|(refine rg 7 (mV ?_))|(refine rg 9 (dK rfl (vV (aJ rfl rfl) ?_)))|(refine rg 11 (dK rfl (vV (fB rfl rfl) ?_)))|(refine rg 12 (aV ?_))|refine nZ ?_));all_goals first | (exfalso;omega) | exact rQ
    · rw [show cI x y = 0 by unfold cI;rw [if_neg h1,if_neg h2]]
      refine bX T Tryz.func96 rfl rfl rfl rfl ?_
      (repeat' (first|refine wS ?_|refine wK ?_|refine wR ?_|refine wU ?_|(refine wC rfl ?_ ?_<;>(intro hb;(try simp only [nm] at hb);try (exfalso;omega)))|(refine rg 0 (aV ?_))|(refine rg 1 (mW rfl (vV (kC (EC x)) (aV ?_))))|(refine rg 2 (mW rfl (vV (kC (EC y)) (aV ?_))))|(refine rg 3 (mV ?_))|(refine rg 7 (mV ?_))|(refine rg 9 (dK rfl (vV (aJ rfl rfl) ?_)))|(refine rg 11 (dK rfl (vV (fB rfl rfl) ?_)))|(refine rg 13 (aV ?_))|refine nZ ?_));all_goals first | (exfalso;omega) | exact rQ
theorem yB4 (x y : Int) : aU Tryz.prog 94 [.rowE (ints [x,y]) 1] [] (.i (Q3 x y)) [] := by
  have hlen : (ints [x,y]).length = 2 := rfl;refine bX T Tryz.func94 rfl rfl rfl rfl ?_
  (repeat' (first|refine wS ?_|refine wB ?_|(refine rg 0 (aV ?_))|(refine rg 1 (aV ?_))|(refine rg 2 (mW rfl (qW T rfl (mV ?_))))|refine nZ ?_));refine dC (X := {k : Nat // k ≤ 2 ∧ (1 ≤ k → x = 0) ∧ (2 ≤ k → y = 0)}) (fun k => [(0,.rowE (ints [x,y]) 1),(3,.i 0),(6,.rowE (ints [x,y]) 1),(7,.i (ints [x,y]).length),(8,.i k.1)]) (fun _ => []) (fun k => 2 - k.1) ⟨0,by omega,by omega,by omega⟩ (gM []) ?_
  rintro ⟨k,hk,h1,h2⟩;dsimp only;by_cases hlt : k < 2
  · have hg : ∃ z,(ints [x,y])[k]? = some [AV.i z] ∧ (k = 0 → z = x) ∧ (k = 1 → z = y) := by
      rcases (by omega : k = 0 ∨ k = 1) with rfl | rfl
      · exact ⟨x,rfl,fun _ => rfl,by omega⟩
      · exact ⟨y,rfl,by omega,fun _ => rfl⟩
    obtain ⟨z,hg,hz1,hz2⟩ := hg;by_cases h0 : z = 0
    · (repeat' (first|refine wS ?_|refine wB ?_|refine wK ?_|(refine wC rfl (fun hb => ?_) (fun hb => ?_) <;> (((try simp only [nm] at hb);try (exfalso;omega))))|(refine rg 3 (vV (aJ rfl rfl) ?_))|(refine rg 4 (vV (ix T rfl (by omega) (eB [x,y]) hg) (lW T rfl (aV ?_))))|(refine rg 5 (dK rfl (vV (fY rfl rfl) ?_)))|(refine rg 7 (vV (cJ rfl rfl (by omega) (by omega)) (mV ?_)))|(refine nZ ?_)));all_goals first | (exfalso;omega) | exact ⟨⟨k + 1,by omega,by omega,by omega⟩,by dsimp only;omega,gM []⟩
    · (repeat' (first|refine wS ?_|refine wB ?_|refine wK ?_|refine wR ?_|(refine wC rfl (fun hb => ?_) (fun hb => ?_) <;> (((try simp only [nm] at hb);try (exfalso;omega))))|(refine rg 3 (vV (aJ rfl rfl) ?_))|(refine rg 4 (vV (ix T rfl (by omega) (eB [x,y]) hg) (lW T rfl (aV ?_))))|(refine rg 5 (dK rfl (vV (fY rfl rfl) ?_)))|(refine rg 6 (mW rfl (aV ?_)))|(refine nZ ?_)));all_goals first | (exfalso;omega) | exact dH (.inl rfl) rfl (by rw [show Q3 x y = z by unfold Q3;split <;> omega];rfl)
  · (repeat' (first|refine wS ?_|refine wR ?_|refine wE ?_|(refine wC rfl (fun hb => ?_) (fun hb => ?_) <;> (((try simp only [nm] at hb);try (exfalso;omega))))|(refine rg 3 (vV (aJ rfl rfl) ?_))|(refine rg 8 (mW rfl (aV ?_)))|(refine nZ ?_)));all_goals first | (exfalso;omega) | exact dH (.inl rfl) rfl (by rw [show Q3 x y = 0 by unfold Q3;split <;> omega];rfl)
theorem yD3 {a b : List Int} {k : Nat} (h1 : k < a.length) (h2 : k < b.length) : cL (a.drop k) (b.drop k) = Q3 (cI a[k] b[k]) (cL (a.drop (k + 1)) (b.drop (k + 1))) := by
  rw [aT h1,aT h2];rfl
theorem zO9 {a b : List Int} {k : Nat} (h1 : k < a.length) (h2 : k = b.length) : cL (a.drop k) (b.drop k) = 1 := by
  rw [aT h1,cT (l := b) (by omega)];rfl
theorem zO8 {a b : List Int} {k : Nat} (h1 : k = a.length) (h2 : k < b.length) : cL (a.drop k) (b.drop k) = -1 := by
  rw [cT (l := a) (by omega),aT h2];rfl
theorem zO7 {a b : List Int} {k : Nat} (h1 : k = a.length) (h2 : k = b.length) : cL (a.drop k) (b.drop k) = 0 := by
  rw [cT (l := a) (by omega),cT (l := b) (by omega)];rfl
theorem XJ (b : Int) : Q3 0 b = b := rfl
theorem NL {a b : Int} (h : ¬ a = 0) : Q3 a b = a := by unfold Q3;rw [if_neg h]
theorem UJ (a b : List Int) (ha : a.length ≤ 9223372036854775807) (hb : b.length ≤ 9223372036854775807) : aU Tryz.prog 129 [.rowE (ints a) 1,.rowE (ints b) 1] [] (.i (cL a b)) [] := by
  have hla : (ints a).length = a.length := by simp
  have hlb : (ints b).length = b.length := by simp
  refine bX T Tryz.func129 rfl rfl rfl rfl ?_
  (repeat' (first|refine wS ?_|refine wB ?_|(refine rg 0 (aV ?_))|(refine rg 1 (mW rfl (qW T rfl (mV ?_))))|refine nZ ?_));refine dC (X := {k : Nat // k ≤ a.length ∧ k ≤ b.length ∧ cL a b = cL (a.drop k) (b.drop k)}) (fun k => [(0,.rowE (ints a) 1),(1,.rowE (ints b) 1),(9,.rowE (ints a) 1),(10,.i (ints a).length),(11,.i k.1)]) (fun _ => []) (fun k => a.length - k.1) ⟨0,by omega,by omega,rfl⟩ (gM []) ?_
  rintro ⟨k,hk,hkb,he⟩;dsimp only;by_cases h1 : k < a.length
  · have g1 := kX h1;by_cases h2 : k < b.length
    · have g2 := kX h2;have e1 := yD3 h1 h2;have hc := ET a[k] b[k];generalize a[k] = x at *;generalize b[k] = y at *;by_cases h0 : cI x y = 0
      · rw [h0] at hc e1;rw [XJ] at e1
        (repeat' (first|refine wS ?_|refine wB ?_|refine wK ?_|refine wU ?_|(refine wC rfl ?_ ?_<;>(intro hb;(try simp only [nm] at hb);try (exfalso;omega)))|(refine rg 2 (vV (aJ rfl rfl) ?_))|(refine rg 3 (mW rfl (vV (ix T rfl (by omega) (eB a) g1) (lW T rfl (uV ?_)))))|(refine rg 4 (dK rfl (qW T rfl (vV (gV rfl rfl) ?_))))|(refine rg 6 (dK rfl (vV (ix T rfl (by omega) (eB b) g2) (lW T rfl (aV ?_)))))|(refine rg 7 (dK rfl (vV (kC (hc)) (aV ?_))))|(refine rg 8 (mW rfl (vV (fY rfl rfl) ?_)))|(refine rg 10 (vV (cJ rfl rfl (by omega) (by omega)) (mV ?_)))|refine nZ ?_));all_goals first | (exfalso;omega) | exact ⟨⟨k + 1,by omega,by omega,he.trans e1⟩,by dsimp only;omega,gM []⟩
      · rw [NL h0] at e1;generalize cI x y = q at *
        (repeat' (first|refine wS ?_|refine wB ?_|refine wK ?_|refine wR ?_|(refine wC rfl ?_ ?_<;>(intro hb;(try simp only [nm] at hb);try (exfalso;omega)))|(refine rg 2 (vV (aJ rfl rfl) ?_))|(refine rg 3 (mW rfl (vV (ix T rfl (by omega) (eB a) g1) (lW T rfl (uV ?_)))))|(refine rg 4 (dK rfl (qW T rfl (vV (gV rfl rfl) ?_))))|(refine rg 6 (dK rfl (vV (ix T rfl (by omega) (eB b) g2) (lW T rfl (aV ?_)))))|(refine rg 7 (dK rfl (vV (kC (hc)) (aV ?_))))|(refine rg 8 (mW rfl (vV (fY rfl rfl) ?_)))|(refine rg 9 (mW rfl (aV ?_)))|refine nZ ?_));all_goals first | (exfalso;omega) | exact dH (.inl rfl) rfl (by rw [he,e1];rfl)
    · have e1 := zO9 h1 (show k = b.length by omega)
      (repeat' (first|refine wS ?_|refine wB ?_|refine wK ?_|refine wR ?_|(refine wC rfl ?_ ?_<;>(intro hb;(try simp only [nm] at hb);try (exfalso;omega)))|(refine rg 2 (vV (aJ rfl rfl) ?_))|(refine rg 3 (mW rfl (vV (ix T rfl (by omega) (eB a) g1) (lW T rfl (uV ?_)))))|(refine rg 4 (dK rfl (qW T rfl (vV (gV rfl rfl) ?_))))|(refine rg 5 (aV ?_))|refine nZ ?_));all_goals first | (exfalso;omega) | exact dH (.inl rfl) rfl (by rw [he,e1];rfl)
  · by_cases h2 : k < b.length
    · have e1 := zO8 (show k = a.length by omega) h2
      (repeat' (first|refine wS ?_|refine wR ?_|refine wE ?_|(refine wC rfl ?_ ?_<;>(intro hb;(try simp only [nm] at hb);try (exfalso;omega)))|(refine rg 2 (vV (aJ rfl rfl) ?_))|(refine rg 11 (mW rfl (qW T rfl (mW rfl (qW T rfl (vV (aJ rfl rfl) ?_))))))|(refine rg 12 (aV ?_))|refine nZ ?_));all_goals first | (exfalso;omega) | exact dH (.inl rfl) rfl (by rw [he,e1];rfl)
    · have e1 := zO7 (show k = a.length by omega) (show k = b.length by omega)
      (repeat' (first|refine wS ?_|refine wK ?_|refine wR ?_|refine wE ?_|(refine wC rfl ?_ ?_<;>(intro hb;(try simp only [nm] at hb);try (exfalso;omega)))|(refine rg 2 (vV (aJ rfl rfl) ?_))|(refine rg 11 (mW rfl (qW T rfl (mW rfl (qW T rfl (vV (aJ rfl rfl) ?_))))))|(refine rg 13 (aV ?_))|refine nZ ?_));all_goals first | (exfalso;omega) | exact dH (.inl rfl) rfl (by rw [he,e1];rfl)
theorem lJ (l : List SP) : ∀ e,e ∈ fL l → e.length = 2 := by intro e he;obtain ⟨n,_,rfl⟩ := bB.1 he;rfl
theorem DB {l : List SP} {k : Nat} (h : k < l.length) : (fL l)[k]? = some [AV.i l[k].1,AV.i l[k].2] := by simp [h]
theorem XI (x y : SP) : aU Tryz.prog 131 [mT x.1 x.2,mT y.1 y.2] [] (.i (cS x y)) [] := by
  have h1 := ET x.1 y.1;have h2 := ET x.2 y.2;have h3 := yB4 (cI x.1 y.1) (cI x.2 y.2);refine bX T Tryz.func131 rfl rfl rfl rfl ?_
  (repeat' (first|refine wS ?_|refine wR ?_|(refine rg 0 (cH (cY rfl rfl) rfl (cH (cY rfl rfl) rfl (aV ?_))))|(refine cO (id := 1) 17 [[],[0],[],[2],rN 4,[],[5],[],[7],rN 9,rN 10,rN 11] (rM 5 12) [[],[],[5,6],[5,6],[],rM 5 5,rM 5 5,rM 5 7,rM 5 7,[],[],[]] cW rfl (by decide +kernel) (dP T rfl (dO T rfl (dP T rfl (dO T rfl (dV rfl (kC (h1)) (dP T rfl (dO T rfl (dP T rfl (dL T ?_)))))))));refine dV rfl (kC (h2)) (F9 rfl rfl rfl (by exact bD T rfl rfl (by decide) (by decide) rfl rfl rfl) rfl ?_);refine dV rfl (by exact eW rfl rfl (h3) (by ((repeat (first|exact .nil|exact .v _|refine .cons ?_ ?_|refine .sl rfl (by simp) ?_));done)) rfl rfl) ?_;(all_goals (refine dE ?_;refine aV ?_)))|refine nZ ?_));all_goals first | (exfalso;omega) | exact rQ
end Go.Proofs.YtmmmeebiobjnbaaGreat
