/-
  Texts of the logic and of the layer,in one module (part 4).
-/
import Derived.Test.YtojgimibalokkaaGreatK3
import Derived.Test.YtojgimibalokkaaGreatRows
import Derived.KernelRfl
import Derived.Shelf.Lay
import Derived.Shelf.Sort.Plain
import Derived.Shelf.Slices.In.SortNone
import Derived.Ground.NamesProg
import Derived.WalkKit
set_option linter.unusedVariables false
set_option linter.unusedSimpArgs false
set_option linter.unnecessarySimpa false
namespace Go.Proofs.YtojgimibalokkaaGreat
open Go Go.Ab
def yJ5:List (Nat × TI):=[(1,⟨false,1,8,[.nilFunc]⟩),
  (2,⟨false,1,8,[.int .i64 0]⟩),
  (3,⟨false,1,8,[.int .i64 0]⟩),
  (4,⟨false,1,1,[.bool false]⟩),
  (5,⟨false,1,1,[.int .u8 0]⟩),
  (6,⟨false,1,1,[.int .u8 0]⟩),
  (7,⟨true,4,24,[.int .i64 0,.int .i64 0,.bool false,.int .u8 0]⟩),
  (8,⟨true,4,24,[.int .i64 0,.int .i64 0,.bool false,.int .u8 0]⟩),
  (9,⟨false,1,16,[.string ⟨#[]⟩]⟩),
  (10,⟨false,1,16,[.string ⟨#[]⟩]⟩),
  (11,⟨false,1,16,[.string ⟨#[]⟩]⟩),
  (12,⟨false,1,8,[.int .u64 0]⟩),
  (13,⟨true,2,24,[.string ⟨#[]⟩,.int .u64 0]⟩),
  (14,⟨true,2,24,[.string ⟨#[]⟩,.int .u64 0]⟩),
  (15,⟨false,1,8,[.pointer none]⟩),
  (16,⟨false,1,8,[.pointer none]⟩),
  (17,⟨false,1,8,[.pointer none]⟩),
  (18,⟨true,1,8,[.pointer none]⟩),
  (19,⟨true,1,8,[.pointer none]⟩),
  (21,⟨false,1,4,[.int .i32 0]⟩),
  (22,⟨false,1,24,[.slice none 0 0]⟩),
  (23,⟨false,1,24,[.slice none 0 0]⟩),
  (24,⟨false,1,24,[.slice none 0 0]⟩),
  (25,⟨false,1,24,[.slice none 0 0]⟩),
  (26,⟨true,4,96,[.slice none 0 0,.slice none 0 0,.slice none 0 0,.slice none 0 0]⟩),
  (27,⟨true,4,96,[.slice none 0 0,.slice none 0 0,.slice none 0 0,.slice none 0 0]⟩),
  (28,⟨true,4,32,[.int .i64 0,.int .i64 0,.int .i64 0,.int .i64 0]⟩),
  (29,⟨true,4,32,[.int .i64 0,.int .i64 0,.int .i64 0,.int .i64 0]⟩),
  (30,⟨false,1,24,[.slice none 0 0]⟩),
  (31,⟨false,1,8,[.nilFunc]⟩),
  (32,⟨false,1,8,[.nilFunc]⟩),
  (33,⟨false,1,8,[.pointer none]⟩),
  (35,⟨false,1,8,[.nilFunc]⟩),
  (37,⟨false,1,8,[.nilFunc]⟩),
  (38,⟨false,1,8,[.int .i64 0]⟩),
  (39,⟨false,1,8,[.nilFunc]⟩),
  (40,⟨true,5,56,[.int .i64 0,.int .i64 0,.int .i64 0,.int .i64 0,.slice none 0 0]⟩),
  (41,⟨true,5,56,[.int .i64 0,.int .i64 0,.int .i64 0,.int .i64 0,.slice none 0 0]⟩),
  (42,⟨false,1,24,[.slice none 0 0]⟩),
  (43,⟨false,1,8,[.nilFunc]⟩),
  (44,⟨false,1,8,[.nilFunc]⟩),
  (46,⟨false,1,8,[.nilFunc]⟩),
  (47,⟨false,1,8,[.nilFunc]⟩),
  (48,⟨false,1,8,[.nilFunc]⟩),
  (49,⟨false,1,8,[.nilFunc]⟩),
  (50,⟨false,1,8,[.nilFunc]⟩),
  (51,⟨false,1,8,[.nilFunc]⟩),
  (53,⟨false,1,8,[.nilFunc]⟩),
  (54,⟨false,1,8,[.nilFunc]⟩),
  (55,⟨false,1,8,[.nilFunc]⟩),
  (56,⟨false,1,8,[.nilFunc]⟩),
  (58,⟨false,1,8,[.nilFunc]⟩),
  (59,⟨true,2,16,[.int .i64 0,.int .i64 0]⟩),
  (60,⟨true,2,16,[.int .i64 0,.int .i64 0]⟩),
  (61,⟨false,1,8,[.nilFunc]⟩),
  (62,⟨false,1,24,[.slice none 0 0]⟩),
  (63,⟨true,8,128,[.int .i64 0,.int .i64 0,.int .i64 0,.int .i64 0,.slice none 0 0,.slice none 0 0,.slice none 0 0,.slice none 0 0]⟩),
  (64,⟨true,8,128,[.int .i64 0,.int .i64 0,.int .i64 0,.int .i64 0,.slice none 0 0,.slice none 0 0,.slice none 0 0,.slice none 0 0]⟩),
  (65,⟨false,1,8,[.nilFunc]⟩),
  (66,⟨false,1,24,[.slice none 0 0]⟩),
  (67,⟨true,2,48,[.slice none 0 0,.slice none 0 0]⟩),
  (68,⟨true,2,48,[.slice none 0 0,.slice none 0 0]⟩),
  (70,⟨false,1,8,[.nilFunc]⟩),
  (71,⟨false,1,8,[.nilFunc]⟩),
  (72,⟨false,1,8,[.nilFunc]⟩),
  (73,⟨false,1,24,[.slice none 0 0]⟩),
  (74,⟨true,3,56,[.slice none 0 0,.int .i64 0,.slice none 0 0]⟩),
  (75,⟨true,3,56,[.slice none 0 0,.int .i64 0,.slice none 0 0]⟩),
  (77,⟨false,1,8,[.nilFunc]⟩),
  (78,⟨false,1,8,[.nilFunc]⟩),
  (79,⟨false,1,8,[.nilFunc]⟩),
  (80,⟨false,1,8,[.nilFunc]⟩),
  (81,⟨false,1,8,[.nilFunc]⟩),
  (82,⟨false,1,8,[.nilFunc]⟩),
  (83,⟨false,1,8,[.nilFunc]⟩),
  (84,⟨false,1,8,[.nilFunc]⟩),
  (85,⟨false,1,8,[.nilFunc]⟩),
  (87,⟨false,1,8,[.nilFunc]⟩),
  (88,⟨false,1,8,[.nilFunc]⟩),
  (89,⟨false,1,8,[.nilFunc]⟩),
  (90,⟨false,1,8,[.nilFunc]⟩),
  (91,⟨true,2,24,[.string ⟨#[]⟩,.int .i64 0]⟩),
  (92,⟨true,2,24,[.string ⟨#[]⟩,.int .i64 0]⟩),
  (94,⟨true,3,24,[.int .i64 0,.int .i64 0,.bool false]⟩),
  (95,⟨true,3,24,[.int .i64 0,.int .i64 0,.bool false]⟩),
  (96,⟨false,1,8,[.nilFunc]⟩),
  (97,⟨true,3,24,[.int .i64 0,.int .i64 0,.int .i64 0]⟩),
  (98,⟨true,3,24,[.int .i64 0,.int .i64 0,.int .i64 0]⟩),
  (99,⟨true,2,16,[.int .i64 0,.int .i64 0]⟩),
  (100,⟨true,2,16,[.int .i64 0,.int .i64 0]⟩),
  (101,⟨false,1,8,[.nilFunc]⟩),
  (103,⟨false,1,8,[.nilFunc]⟩),
  (104,⟨false,1,8,[.pointer none]⟩),
  (105,⟨false,1,8,[.map none]⟩),
  (106,⟨true,2,32,[.slice none 0 0,.map none]⟩),
  (107,⟨true,2,32,[.slice none 0 0,.map none]⟩),
  (108,⟨false,1,8,[.nilFunc]⟩),
  (109,⟨true,6,48,[.int .i64 0,.int .i64 0,.int .i64 0,.int .i64 0,.int .i64 0,.int .i64 0]⟩),
  (110,⟨true,6,48,[.int .i64 0,.int .i64 0,.int .i64 0,.int .i64 0,.int .i64 0,.int .i64 0]⟩),
  (111,⟨false,1,8,[.nilFunc]⟩),
  (112,⟨false,1,8,[.nilFunc]⟩),
  (113,⟨false,1,8,[.nilFunc]⟩),
  (114,⟨false,1,8,[.nilFunc]⟩),
  (117,⟨false,1,8,[.nilFunc]⟩),
  (118,⟨false,1,8,[.nilFunc]⟩),
  (119,⟨false,1,8,[.nilFunc]⟩),
  (120,⟨false,1,8,[.nilFunc]⟩),
  (121,⟨false,1,8,[.nilFunc]⟩),
  (122,⟨false,1,8,[.nilFunc]⟩),
  (124,⟨false,1,8,[.nilFunc]⟩),
  (125,⟨false,1,8,[.nilFunc]⟩),
  (126,⟨false,1,8,[.nilFunc]⟩),
  (127,⟨false,1,8,[.nilFunc]⟩),
  (128,⟨false,1,8,[.nilFunc]⟩),
  (130,⟨false,1,8,[.nilFunc]⟩),
  (132,⟨false,1,8,[.nilFunc]⟩),
  (133,⟨false,1,8,[.nilFunc]⟩),
  (134,⟨false,1,8,[.nilFunc]⟩),
  (136,⟨false,1,8,[.nilFunc]⟩),
  (138,⟨false,1,8,[.nilFunc]⟩),
  (139,⟨false,1,8,[.nilFunc]⟩),
  (140,⟨false,1,8,[.nilFunc]⟩),
  (142,⟨false,1,8,[.nilFunc]⟩),
  (143,⟨false,1,8,[.nilFunc]⟩),
  (144,⟨false,1,8,[.nilFunc]⟩),
  (145,⟨false,1,8,[.nilFunc]⟩),
  (146,⟨false,1,8,[.nilFunc]⟩),
  (147,⟨false,1,8,[.nilFunc]⟩),
  (148,⟨false,1,8,[.nilFunc]⟩),
  (150,⟨false,1,8,[.nilFunc]⟩),
  (152,⟨false,1,8,[.nilFunc]⟩),
  (157,⟨false,1,8,[.nilFunc]⟩),
  (161,⟨false,1,8,[.nilFunc]⟩),
  (169,⟨false,1,8,[.int .u64 0]⟩),
  (173,⟨false,1,8,[.nilFunc]⟩),
  (174,⟨false,1,8,[.nilFunc]⟩),
  (177,⟨false,1,8,[.nilFunc]⟩),
  (180,⟨false,1,8,[.int .i64 0]⟩),
  (187,⟨false,1,4,[.int .u32 0]⟩),
  (189,⟨false,1,8,[.int .u64 0]⟩),
  (194,⟨false,1,8,[.nilFunc]⟩),
  (195,⟨false,1,8,[.nilFunc]⟩),
  (208,⟨true,4,40,[.pointer none,.pointer none,.pointer none,.string ⟨#[]⟩]⟩),
  (209,⟨true,4,40,[.pointer none,.pointer none,.pointer none,.string ⟨#[]⟩]⟩),
  (214,⟨false,1,1,[.int .u8 0]⟩),
  (215,⟨false,1,1,[.int .u8 0]⟩),
  (216,⟨false,1,8,[.nilFunc]⟩),
  (217,⟨false,1,8,[.pointer none]⟩),
  (218,⟨false,1,4,[.int .i32 0]⟩),
  (219,⟨false,1,4,[.int .i32 0]⟩),
  (220,⟨true,11,48,[.int .u64 0,.int .u64 0,.int .u32 0,.int .u8 0,.int .u8 0,.int .u8 0,.int .u8 0,.nilFunc,.pointer none,.int .i32 0,.int .i32 0]⟩),
  (221,⟨true,11,48,[.int .u64 0,.int .u64 0,.int .u32 0,.int .u8 0,.int .u8 0,.int .u8 0,.int .u8 0,.nilFunc,.pointer none,.int .i32 0,.int .i32 0]⟩)]
set_option maxRecDepth 8000 in
theorem zT8:LF (fun t i=>∃ inf z,Tryz.prog.info? t=some inf∧inf.size=i.size∧inf.bytes=i.bytes∧inf.zero=some z∧z.cells.toList=i.zero∧i.zero.length=i.size∧BA Tryz.prog t=some i.agg) yJ5:=
  ⟨tq (.nilFunc),tq (.int .i64 0),tq (.int .i64 0),tq (.bool false),tq (.int .u8 0),tq (.int .u8 0),tq (.agg #[.int .i64 0,.int .i64 0,.bool false,.int .u8 0]),tq (.agg #[.int .i64 0,.int .i64 0,.bool false,.int .u8 0]),tq (.string ⟨#[]⟩),tq (.string ⟨#[]⟩),tq (.string ⟨#[]⟩),tq (.int .u64 0),tq (.agg #[.string ⟨#[]⟩,.int .u64 0]),tq (.agg #[.string ⟨#[]⟩,.int .u64 0]),tq (.pointer none),tq (.pointer none),tq (.pointer none),tq (.agg #[.pointer none]),tq (.agg #[.pointer none]),tq (.int .i32 0),tq (.slice none 0 0),tq (.slice none 0 0),tq (.slice none 0 0),tq (.slice none 0 0),tq (.agg #[.slice none 0 0,.slice none 0 0,.slice none 0 0,.slice none 0 0]),tq (.agg #[.slice none 0 0,.slice none 0 0,.slice none 0 0,.slice none 0 0]),tq (.agg #[.int .i64 0,.int .i64 0,.int .i64 0,.int .i64 0]),tq (.agg #[.int .i64 0,.int .i64 0,.int .i64 0,.int .i64 0]),tq (.slice none 0 0),tq (.nilFunc),tq (.nilFunc),tq (.pointer none),tq (.nilFunc),tq (.nilFunc),tq (.int .i64 0),tq (.nilFunc),tq (.agg #[.int .i64 0,.int .i64 0,.int .i64 0,.int .i64 0,.slice none 0 0]),tq (.agg #[.int .i64 0,.int .i64 0,.int .i64 0,.int .i64 0,.slice none 0 0]),tq (.slice none 0 0),tq (.nilFunc),tq (.nilFunc),tq (.nilFunc),tq (.nilFunc),tq (.nilFunc),tq (.nilFunc),tq (.nilFunc),tq (.nilFunc),tq (.nilFunc),tq (.nilFunc),tq (.nilFunc),tq (.nilFunc),tq (.nilFunc),tq (.agg #[.int .i64 0,.int .i64 0]),tq (.agg #[.int .i64 0,.int .i64 0]),tq (.nilFunc),tq (.slice none 0 0),tq (.agg #[.int .i64 0,.int .i64 0,.int .i64 0,.int .i64 0,.slice none 0 0,.slice none 0 0,.slice none 0 0,.slice none 0 0]),tq (.agg #[.int .i64 0,.int .i64 0,.int .i64 0,.int .i64 0,.slice none 0 0,.slice none 0 0,.slice none 0 0,.slice none 0 0]),tq (.nilFunc),tq (.slice none 0 0),tq (.agg #[.slice none 0 0,.slice none 0 0]),tq (.agg #[.slice none 0 0,.slice none 0 0]),tq (.nilFunc),tq (.nilFunc),tq (.nilFunc),tq (.slice none 0 0),tq (.agg #[.slice none 0 0,.int .i64 0,.slice none 0 0]),tq (.agg #[.slice none 0 0,.int .i64 0,.slice none 0 0]),tq (.nilFunc),tq (.nilFunc),tq (.nilFunc),tq (.nilFunc),tq (.nilFunc),tq (.nilFunc),tq (.nilFunc),tq (.nilFunc),tq (.nilFunc),tq (.nilFunc),tq (.nilFunc),tq (.nilFunc),tq (.nilFunc),tq (.agg #[.string ⟨#[]⟩,.int .i64 0]),tq (.agg #[.string ⟨#[]⟩,.int .i64 0]),tq (.agg #[.int .i64 0,.int .i64 0,.bool false]),tq (.agg #[.int .i64 0,.int .i64 0,.bool false]),tq (.nilFunc),tq (.agg #[.int .i64 0,.int .i64 0,.int .i64 0]),tq (.agg #[.int .i64 0,.int .i64 0,.int .i64 0]),tq (.agg #[.int .i64 0,.int .i64 0]),tq (.agg #[.int .i64 0,.int .i64 0]),tq (.nilFunc),tq (.nilFunc),tq (.pointer none),tq (.map none),tq (.agg #[.slice none 0 0,.map none]),tq (.agg #[.slice none 0 0,.map none]),tq (.nilFunc),tq (.agg #[.int .i64 0,.int .i64 0,.int .i64 0,.int .i64 0,.int .i64 0,.int .i64 0]),tq (.agg #[.int .i64 0,.int .i64 0,.int .i64 0,.int .i64 0,.int .i64 0,.int .i64 0]),tq (.nilFunc),tq (.nilFunc),tq (.nilFunc),tq (.nilFunc),tq (.nilFunc),tq (.nilFunc),tq (.nilFunc),tq (.nilFunc),tq (.nilFunc),tq (.nilFunc),tq (.nilFunc),tq (.nilFunc),tq (.nilFunc),tq (.nilFunc),tq (.nilFunc),tq (.nilFunc),tq (.nilFunc),tq (.nilFunc),tq (.nilFunc),tq (.nilFunc),tq (.nilFunc),tq (.nilFunc),tq (.nilFunc),tq (.nilFunc),tq (.nilFunc),tq (.nilFunc),tq (.nilFunc),tq (.nilFunc),tq (.nilFunc),tq (.nilFunc),tq (.nilFunc),tq (.nilFunc),tq (.nilFunc),tq (.nilFunc),tq (.int .u64 0),tq (.nilFunc),tq (.nilFunc),tq (.nilFunc),tq (.int .i64 0),tq (.int .u32 0),tq (.int .u64 0),tq (.nilFunc),tq (.nilFunc),tq (.agg #[.pointer none,.pointer none,.pointer none,.string ⟨#[]⟩]),tq (.agg #[.pointer none,.pointer none,.pointer none,.string ⟨#[]⟩]),tq (.int .u8 0),tq (.int .u8 0),tq (.nilFunc),tq (.pointer none),tq (.int .i32 0),tq (.int .i32 0),tq (.agg #[.int .u64 0,.int .u64 0,.int .u32 0,.int .u8 0,.int .u8 0,.int .u8 0,.int .u8 0,.nilFunc,.pointer none,.int .i32 0,.int .i32 0]),tq (.agg #[.int .u64 0,.int .u64 0,.int .u32 0,.int .u8 0,.int .u8 0,.int .u8 0,.int .u8 0,.nilFunc,.pointer none,.int .i32 0,.int .i32 0]),
   trivial⟩
def zR7:List (Nat × Nat):=[(22,92),(23,95),(24,3),(25,98),(30,41),(42,24),(62,68),(66,75),(73,100)]
theorem ZC:LF (fun t e=>Tryz.prog.underlying t=some (.slice e)) zR7:=⟨kq,kq,kq,kq,kq,kq,kq,kq,kq,trivial⟩
def yG2:List (Nat × (Nat × Nat)):=[(109,(6,3)),(110,(6,3)),(210,(0,16))]
theorem zP6:LF (fun t p=>Tryz.prog.underlying t=some (.array p.1 p.2)) yG2:=⟨kq,kq,kq,trivial⟩
def OS:List (Nat × List (Nat × Nat)):=[(7,[(0,1),(1,1),(2,1),(3,1)]),(8,[(0,1),(1,1),(2,1),(3,1)]),(13,[(0,1),(1,1)]),(14,[(0,1),(1,1)]),(18,[(0,1)]),(19,[(0,1)]),(26,[(0,1),(1,1),(2,1),(3,1)]),(27,[(0,1),(1,1),(2,1),(3,1)]),(28,[(0,1),(1,1),(2,1),(3,1)]),(29,[(0,1),(1,1),(2,1),(3,1)]),(40,[(0,1),(1,1),(2,1),(3,1),(4,1)]),(41,[(0,1),(1,1),(2,1),(3,1),(4,1)]),(59,[(0,1),(1,1)]),(60,[(0,1),(1,1)]),(63,[(0,4),(4,1),(5,1),(6,1),(7,1)]),(64,[(0,4),(4,1),(5,1),(6,1),(7,1)]),(67,[(0,1),(1,1)]),(68,[(0,1),(1,1)]),(74,[(0,1),(1,1),(2,1)]),(75,[(0,1),(1,1),(2,1)]),(91,[(0,1),(1,1)]),(92,[(0,1),(1,1)]),(94,[(0,1),(1,1),(2,1)]),(95,[(0,1),(1,1),(2,1)]),(97,[(0,1),(1,1),(2,1)]),(98,[(0,1),(1,1),(2,1)]),(99,[(0,1),(1,1)]),(100,[(0,1),(1,1)]),(106,[(0,1),(1,1)]),(107,[(0,1),(1,1)]),(208,[(0,1),(1,1),(2,1),(3,1)]),(209,[(0,1),(1,1),(2,1),(3,1)]),(211,[(0,0)]),(212,[(0,0)]),(220,[(0,1),(1,1),(2,1),(3,1),(4,1),(5,1),(6,1),(7,1),(8,1),(9,1),(10,1)]),(221,[(0,1),(1,1),(2,1),(3,1),(4,1),(5,1),(6,1),(7,1),(8,1),(9,1),(10,1)])]
theorem LZ:LF (fun t l=>EY Tryz.prog t=some l) OS:=⟨kq,kq,kq,kq,kq,kq,kq,kq,kq,kq,kq,kq,kq,kq,kq,kq,kq,kq,kq,kq,kq,kq,kq,kq,kq,kq,kq,kq,kq,kq,kq,kq,kq,kq,kq,kq,trivial⟩
def YW:List ((Nat × Nat) × Nat):=[((7,0),0),((7,1),1),((7,2),2),((7,3),3),((8,0),0),((8,1),1),((8,2),2),((8,3),3),((13,0),0),((13,1),1),((14,0),0),((14,1),1),((18,0),0),((19,0),0),((26,0),0),((26,1),1),((26,2),2),((26,3),3),((27,0),0),((27,1),1),((27,2),2),((27,3),3),((28,0),0),((28,1),1),((28,2),2),((28,3),3),((29,0),0),((29,1),1),((29,2),2),((29,3),3),((40,0),0),((40,1),1),((40,2),2),((40,3),3),((40,4),4),((41,0),0),((41,1),1),((41,2),2),((41,3),3),((41,4),4),((59,0),0),((59,1),1),((60,0),0),((60,1),1),((63,0),0),((63,1),4),((63,2),5),((63,3),6),((63,4),7),((64,0),0),((64,1),4),((64,2),5),((64,3),6),((64,4),7),((67,0),0),((67,1),1),((68,0),0),((68,1),1),((74,0),0),((74,1),1),((74,2),2),((75,0),0),((75,1),1),((75,2),2),((91,0),0),((91,1),1),((92,0),0),((92,1),1),((94,0),0),((94,1),1),((94,2),2),((95,0),0),((95,1),1),((95,2),2),((97,0),0),((97,1),1),((97,2),2),((98,0),0),((98,1),1),((98,2),2),((99,0),0),((99,1),1),((100,0),0),((100,1),1),((106,0),0),((106,1),1),((107,0),0),((107,1),1),((208,0),0),((208,1),1),((208,2),2),((208,3),3),((209,0),0),((209,1),1),((209,2),2),((209,3),3),((220,0),0),((220,1),1),((220,2),2),((220,3),3),((220,4),4),((220,5),5),((220,6),6),((220,7),7),((220,8),8),((220,9),9),((220,10),10),((221,0),0),((221,1),1),((221,2),2),((221,3),3),((221,4),4),((221,5),5),((221,6),6),((221,7),7),((221,8),8),((221,9),9),((221,10),10)]
theorem TY:LF (fun (tf:Nat × Nat) o=>∃ fs fd inf,Tryz.prog.underlying tf.1=some (.struct fs)∧fs[tf.2]? = some fd∧fd.offset=o∧Tryz.prog.info? fd.type=some inf∧inf.size≠0) YW:=
  ⟨fq,fq,fq,fq,fq,fq,fq,fq,fq,fq,fq,fq,fq,fq,fq,fq,fq,fq,fq,fq,fq,fq,fq,fq,fq,fq,fq,fq,fq,fq,fq,fq,fq,fq,fq,fq,fq,fq,fq,fq,fq,fq,fq,fq,AH (n:=3) (by kernel_rfl),fq,fq,fq,fq,AH (n:=3) (by kernel_rfl),fq,fq,fq,fq,fq,fq,fq,fq,fq,fq,fq,fq,fq,fq,fq,fq,fq,fq,fq,fq,fq,fq,fq,fq,fq,fq,fq,fq,fq,fq,fq,fq,fq,fq,fq,fq,fq,fq,fq,fq,fq,fq,fq,fq,fq,fq,fq,fq,fq,fq,fq,fq,fq,fq,fq,fq,fq,fq,fq,fq,fq,fq,fq,fq,fq,fq,fq,fq,
   trivial⟩
theorem cK:Tryz.prog.follows .mixedOrders=true:=by kernel_rfl
def T:oG Tryz.prog where
  ti:=Z2 yJ5
  tiOk:=fun _ _ h=>yY zT8 h
  elem:=Z2 zR7
  elemOk:=fun _ _ h=>yY ZC h
  field:=fun t f=>FK YW t f
  fieldOk:=fun _ _ _ h=>DK TY h
  arr:=Z2 yG2
  arrOk:=fun _ _ _ h=>yY zP6 h
  places:=Z2 OS
  placesOk:=fun _ _ h=>yY LZ h
abbrev ints (l:List Int):List (List AV):=l.map fun n=>[AV.i n]
theorem ints_len (l:List Int):∀ e,e∈ints l→e.length=1:=by intro e he;obtain ⟨n,_,rfl⟩:=bB.1 he;rfl
theorem iQ {l:List Int}{k:Nat}(h:k<l.length):(ints l)[k]? = some [AV.i l[k]]:=by simp [h]
abbrev BX:=Int × Int × Int
abbrev LT:=Int × Int × Bool
abbrev KD:=ByteArray × Int
abbrev dY (l:List BX):List (List AV):=l.map fun b=>[AV.i b.1,AV.i b.2.1,AV.i b.2.2]
abbrev iF (l:List LT):List (List AV):=l.map fun b=>[AV.i b.1,AV.i b.2.1,AV.b b.2.2]
abbrev fF (l:List KD):List (List AV):=l.map fun b=>[AV.v (.string b.1),AV.i b.2]
theorem lE (l:List BX):∀ e,e∈dY l→e.length=3:=by intro e he;obtain ⟨n,_,rfl⟩:=bB.1 he;rfl
theorem vC (l:List LT):∀ e,e∈iF l→e.length=3:=by intro e he;obtain ⟨n,_,rfl⟩:=bB.1 he;rfl
theorem rV (l:List KD):∀ e,e∈fF l→e.length=2:=by intro e he;obtain ⟨n,_,rfl⟩:=bB.1 he;rfl
theorem EG {l:List BX}{k:Nat}(h:k<l.length):(dY l)[k]? = some [AV.i l[k].1,AV.i l[k].2.1,AV.i l[k].2.2]:=by simp [h]
theorem H5 {l:List LT}{k:Nat}(h:k<l.length):(iF l)[k]? = some [AV.i l[k].1,AV.i l[k].2.1,AV.b l[k].2.2]:=by simp [h]
theorem A5 {l:List KD}{k:Nat}(h:k<l.length):(fF l)[k]? = some [AV.v (.string l[k].1),AV.i l[k].2]:=by simp [h]
abbrev lH (m st er sl:Int):AV:=.agg [.i m,.i st,.i er,.i sl]
abbrev yH (k a b n:Int) (ids:List Int):AV:=.agg [.i k,.i a,.i b,.i n,.rowE (ints ids) 1]
theorem lX {a b:Bool}(h:a=b):AV.b a=AV.b b:=by rw [h]
def eF (n f t:Int):Bool:=decide (f≤n)&&decide (n≤t)
def wW:List Int→Int→Int→Int
  | [],_,_=>-1
  | x::r,v,k=>if v=x then k else wW r v (k+1)
theorem JE:∀ (l:List Int) (v k:Int),0≤k→(0≤wW l v k↔v∈l)
  | [],v,k,_=>by simp [wW]
  | x::r,v,k,hk=>by
    simp only [wW];split
    · rename_i e;subst e;simp [hk]
    · rename_i e;rw [JE r v (k+1) (by omega)]
      simp [e]
theorem TJ {l:List Int}{v:Int}{k:Nat}(h:k<l.length):wW (l.drop k) v k=if v=l[k] then (k:Int) else wW (l.drop (k+1)) v ((k+1:Nat):Int):=by
  rw [bC h];simp [wW]
structure Fit (ks:List KD) (ls:List LT) (ps:List Int) (bs:List BX):Prop where
  n1:1≤ps.length
  n8:ps.length≤8
  len:ps.length=bs.length
  k10:ks.length≤10
  l10:ls.length≤10
  k:∀ (i:Nat) (h:i<ks.length),0≤ks[i].2∧ks[i].2≤1048576
  l:∀ (i:Nat) (h:i<ls.length),0≤ls[i].1∧ls[i].1<ks.length
  p:∀ (i:Nat) (h:i<ps.length),0≤ps[i]∧ps[i]<ps.length
  b:∀ (i:Nat) (h:i<bs.length),-1≤bs[i].1∧bs[i].1<ls.length∧0≤bs[i].2.1∧bs[i].2.1≤20000∧(bs[i].1 = -1→bs[i].2.1=0)∧0≤bs[i].2.2∧bs[i].2.2≤1073741824
def mH (m st er sl:Int):Prop:=0≤m∧m≤1048576∧0≤st∧st≤1048576∧0≤er∧er≤1048576∧0≤sl∧sl≤1048576
def mT (ks:List KD) (ls:List LT) (lot:Int):Int:=if lot<0 then 0 else (ks.getD (ls.getD lot.toNat (0,0,false)).1.toNat (⟨#[]⟩,0)).2
theorem OB {ks:List KD}{ls:List LT}{ps:List Int}{bs:List BX}(f:Fit ks ls ps bs){lot:Int}(h:lot<ls.length):0≤mT ks ls lot∧mT ks ls lot≤1048576:=by
  unfold mT;split
  · omega
  · have hl:lot.toNat<ls.length:=by omega
    have h1:=f.l lot.toNat hl;have hk:ls[lot.toNat].1.toNat<ks.length:=by omega
    have h2:=f.k _ hk;simp only [List.getD,aA hl,iL,aA hk];exact h2
def UR (st id k:Int) (ids:List Int):Int:=if k=0 then (if (ids.length:Int)-(if id∈ids then 1 else 0) > st then 0 else if id∈ids then 0 else 1) else 0
def BB (st er sl id ct w k n:Int) (ids:List Int):Bool:=
  if k=0 then decide ((ids.length:Int)-(if id∈ids then 1 else 0)≤st)
  else if k=1 then eF w (n-er) (n+er)
  else if k=2 then decide (n-sl≤ct)
  else if k=3 then decide (n=ct)
  else if k=5 then decide (n=id)
  else true
def C5 (sl ct k n done:Int):Bool:=if k=2 then eF done 0 ct&&eF done (n-sl) (n+sl) else if k=4 then decide (done=0)||decide (done=1) else decide (done=0)
def yW (l:List Int) (n:Int) (i:Nat):Prop:=0≤l.getD i 0∧l.getD i 0≤n-1∧(0<i→l.getD (i-1) 0<l.getD i 0)
open Classical in
noncomputable def S6 (l:List Int) (n:Int):Bool:=decide (∀ i,i<l.length→yW l n i)
end Go.Proofs.YtojgimibalokkaaGreat
namespace Go.Proofs.YtojgimibalokkaaGreat
open Go Go.Ab
attribute [local irreducible] VC AW cF aP
set_option maxHeartbeats 4000000
theorem kJ (n f t:Int):aP Tryz.prog 51 [.i n,.i f,.i t] [] (.b (eF n f t)) []:=by
  refine bL T Tryz.func51 rfl rfl rfl rfl ?_
  (repeat' (first|refine wS ?_|refine wR ?_|(refine rg 0 (aV ?_))|(refine rg 1 (dR rfl (vV (fM rfl rfl) (mV ?_)));refine aY rfl rfl ?_ ?_<;>(intro hb;rw [hb];(try simp only [nm] at hb);try (exfalso;omega));(all_goals first|(refine gT (mW rfl (gT (mW rfl (gT (vV (jP rfl rfl) ?_))))))|(iterate 3 refine gF ?_));(all_goals (refine pW rfl (aV ?_))))|refine nZ ?_));all_goals
    refine cM (.inl rfl) rfl (lX ?_);simp [eF];try omega
theorem pR (l:List Int) (v:Int) (hl:l.length≤9223372036854775807):aP Tryz.prog 27 [.rowE (ints l) 1,.i v] [] (.i (wW l v 0)) []:=by
  have hlen:(ints l).length=l.length:=by simp
  refine bL T Tryz.func27 rfl rfl rfl rfl ?_
  (repeat' (first|refine wS ?_|refine wB ?_|(refine rg 0 (aV ?_))|(refine rg 1 (mW rfl (qW T rfl (mV ?_))))|refine nZ ?_));refine cX (X:={k:Nat // k≤l.length∧wW l v 0=wW (l.drop k) v k}) (fun k=>[(0,.rowE (ints l) 1),(1,.i v),(7,.i (ints l).length),(8,.i k.1)]) (fun _=>[]) (fun k=>l.length-k.1) ⟨0,by simp,rfl⟩ (fU []) ?_
  rintro ⟨k,hk,hf⟩;dsimp only;by_cases hlt:k<l.length
  · have hd:=TJ (v:=v) hlt
    repeat' (first|refine wS ?_|refine wB ?_|refine wK ?_|refine wR ?_|(refine wC rfl ?_ ?_<;>(intro hb;(try simp only [nm] at hb);try (exfalso;omega)))|(refine rg 2 (vV (aK rfl rfl) ?_))|(refine rg 3 (mW rfl (aV ?_)))|(refine rg 4 (dR rfl (mW rfl (vV (ix T rfl (by omega) (ints_len l) (iQ (k:=k) (by omega))) (lW T rfl (vV (bW rfl rfl) ?_))))))|(refine rg 5 (mW rfl (aV ?_)))|(refine rg 6 (vV (bP rfl rfl (by omega) (by omega)) (mV ?_)))|refine nZ ?_)
    · refine cM (.inl rfl) rfl ?_;rw [hf,hd,if_pos hb];rfl
    · refine ⟨⟨k+1,by omega,?_⟩,by dsimp only;omega,fU []⟩
      rw [hf,hd,if_neg hb]
  · (repeat' (first|refine wS ?_|refine wR ?_|refine wE ?_|(refine wC rfl (fun hb=>?_) (fun hb=>?_) <;> (((try simp only [nm] at hb);try (exfalso;omega))))|(refine rg 2 (vV (aK rfl rfl) ?_))|(refine rg 7 (aV ?_))|(refine nZ ?_)));refine cM (.inl rfl) rfl ?_
    rw [hf,dC (by omega)];rfl
theorem xE (l:List Int) (v:Int) (hl:l.length≤9223372036854775807):aP Tryz.prog 60 [.rowE (ints l) 1,.i v] [] (.b (decide (v∈l))) []:=by
  refine bL T Tryz.func60 rfl rfl rfl rfl ?_
  (repeat' (first|refine wS ?_|refine wR ?_|(refine rg 0 (aV ?_))|(refine rg 1 (dR rfl (vV (kC (pR l v hl)) (vV (fM rfl rfl) (aV ?_)))))|refine nZ ?_));refine cM (.inl rfl) rfl (lX ?_)
  rw [iK];simp only [decide_eq_true_eq];exact JE l v 0 (by omega)
theorem zT7 {ks:List KD}{ls:List LT}{ps:List Int}{bs:List BX}(f:Fit ks ls ps bs){lot:Int}(h:lot<ls.length):aP Tryz.prog 63 [.rowE (fF ks) 2,.rowE (iF ls) 3,.i lot] [] (.i (mT ks ls lot)) []:=by
  by_cases h0:lot<0
  · refine bL T Tryz.func63 rfl rfl rfl rfl ?_
    (repeat' (first|refine wS ?_|refine wR ?_|(refine wC rfl ?_ ?_<;>(intro hb;(try simp only [nm] at hb);try (exfalso;omega)))|(refine rg 0 (aV ?_))|(refine rg 1 (mW rfl (vV (aK rfl rfl) ?_)))|(refine rg 2 (aV ?_))|refine nZ ?_));refine cM (.inl rfl) rfl ?_
    unfold mT;rw [if_pos h0];rfl
  · have hl:lot.toNat<ls.length:=by omega
    have h1:=f.l lot.toNat hl;have hk:ls[lot.toNat].1.toNat<ks.length:=by omega
    have hkl:(fF ks).length=ks.length:=by simp
    have hll:(iF ls).length=ls.length:=by simp
    have e:mT ks ls lot=ks[ls[lot.toNat].1.toNat].2:=by
      unfold mT;rw [if_neg h0];simp only [List.getD,aA hl,iL,aA hk]
    refine bL T Tryz.func63 rfl rfl rfl rfl ?_
    (repeat' (first|refine wS ?_|refine wK ?_|refine wR ?_|(refine wC rfl ?_ ?_<;>(intro hb;(try simp only [nm] at hb);try (exfalso;omega)))|(refine rg 0 (aV ?_))|(refine rg 1 (mW rfl (vV (aK rfl rfl) ?_)))|(refine rg 3 (dR rfl (mW rfl (vV (ix T rfl (by omega) (vC ls) (H5 hl)) (fR T rfl (vV (ix T rfl (by omega) (rV ks) (A5 hk)) (fR T rfl (aV ?_))))))))|refine nZ ?_));refine cM (.inl rfl) rfl ?_
    rw [e];rfl
theorem sQ (l:List Int):(ints l).flatten.all AV.one=true:=by
  rw [bA];intro x hx;obtain ⟨e,he,hx⟩:=BJ.1 hx;obtain ⟨p,_,rfl⟩:=bB.1 he;simp at hx;subst hx;rfl
theorem UI (l:List BX):(dY l).flatten.all AV.one=true:=by
  rw [bA];intro x hx;obtain ⟨e,he,hx⟩:=BJ.1 hx;obtain ⟨p,_,rfl⟩:=bB.1 he;simp at hx;rcases hx with rfl | rfl | rfl <;> rfl
theorem OD {a c:Int}{e e':Bool}(h1:a=c) (h3:e=e'):AV.tup [.i a,.b e]=AV.tup [.i c,.b e']:=by rw [h1,h3]
end Go.Proofs.YtojgimibalokkaaGreat
namespace Go.Proofs.YtojgimibalokkaaGreat
open Go Go.Ab
attribute [local irreducible] VC AW cF aP
abbrev mX (f t:Int):AV:=.agg [.i f,.i t]
def zF (f t:Int):Bool:=decide (max f 0<min t 20001)
def FZ (f t:Int):Int:=if zF f t then max f 0 else 0
def cutT (f t:Int):Int:=if zF f t then min t 20001 else 0
theorem AM (f t:Int):(zF f t=true∧FZ f t=max f 0∧cutT f t=min t 20001∧max f 0<min t 20001)∨(zF f t=false∧FZ f t=0∧cutT f t=0∧min t 20001≤max f 0):=by
  by_cases h:max f 0<min t 20001
  · left;simp [zF,FZ,cutT,h]
  · right;simp only [zF,FZ,cutT,h];simp;omega
theorem VT {a b c d:Int}{e e':Bool}(h1:a=c) (h2:b=d) (h3:e=e'):AV.tup [mX a b,.b e]=AV.tup [mX c d,.b e']:=by rw [h1,h2,h3]
theorem EW (f t:Int):aP Tryz.prog 101 [mX f t] [] (.tup [mX (FZ f t) (cutT f t),.b (zF f t)]) []:=by
  refine bL T Tryz.func101 rfl rfl rfl rfl ?_
  (repeat' (first|(first|(refine eS ?_)|(refine pX ?_)|(refine tX ?_)|(refine qM ?_))|(first|(refine vV (by first|exact dS rfl|exact cY T rfl rfl rfl|exact bD T rfl rfl rfl rfl|exact fM rfl rfl|exact uJ rfl rfl|exact MR rfl rfl|exact gG T rfl rfl rfl rfl) ?_)|(refine aU T rfl rfl rfl rfl rfl rfl (by decide) rfl ?_)|(refine iD ?_)|(refine bS (by first|exact bM T rfl|exact bZ rfl rfl) rfl ?_))|((refine qR rfl (fun hb=>?_) (fun hb=>?_)<;>(try simp only [nm] at hb)))));all_goals
    refine cM (.inl rfl) rfl ?_;rcases AM f t with ⟨h1,h2,h3,h4⟩ | ⟨h1,h2,h3,h4⟩
    all_goals (first | (exfalso;omega) | (rw [h1,h2,h3];refine VT ?_ ?_ ?_ <;> first | rfl | omega))
def vH (f t n:Int):Bool:=decide (f≤n)&&decide (n<t)
theorem zG5 (f t n:Int):aP Tryz.prog 66 [mX f t,.i n] [] (.b (vH f t n)) []:=by
  refine bL T Tryz.func66 rfl rfl rfl rfl ?_
  (repeat' (first|(first|(refine eS ?_)|(refine pX ?_)|(refine qM ?_))|(first|(refine vV (by first|exact cP rfl|exact dS rfl|exact cY T rfl rfl rfl|exact bD T rfl rfl rfl rfl|exact mF rfl rfl|exact oU rfl rfl|exact aK rfl rfl|exact jP rfl rfl) ?_)|(refine iD ?_)|(refine CJ rfl rfl ?_ rfl)|(refine CK rfl rfl ?_ rfl)|(refine rZ rfl rfl (fun hb=>?_) (fun hb=>?_) rfl<;>(rw [hb];(try simp only [nm] at hb)))|(refine bS (bZ rfl rfl) rfl ?_))));all_goals
    refine cM (.inl rfl) rfl (lX ?_);simp [vH];try omega
theorem zK8 (a b c d:Int):aP Tryz.prog 64 [mX a b,mX c d] [] (.tup [mX (FZ (max a c) (min b d)) (cutT (max a c) (min b d)),.b (zF (max a c) (min b d))]) []:=by
  refine bL T Tryz.func64 rfl rfl rfl rfl ?_
  (repeat' (first|(first|(refine eS ?_)|(refine pX ?_)|(refine qM ?_))|(first|(refine vV (by first|exact dS rfl|exact cY T rfl rfl rfl|exact bD T rfl rfl rfl rfl|exact dU rfl rfl|exact uJ rfl rfl|exact MR rfl rfl|exact gG T rfl rfl rfl rfl|exact eL rfl rfl (EW _ _) rfl rfl rfl) ?_)|(refine aU T rfl rfl rfl rfl rfl rfl (by decide) rfl ?_)|(refine iD ?_)|(refine bS (by first|exact bM T rfl|exact bZ rfl rfl) rfl ?_))));refine rQ
theorem zG6:aP Tryz.prog 100 [] [] (mX 0 20001) []:=by
  refine bL T Tryz.func100 rfl rfl rfl rfl ?_
  (repeat' (first|(first|(refine eS ?_)|(refine pX ?_)|(refine qM ?_))|(first|(refine vV (by exact gG T rfl rfl rfl rfl) ?_)|(refine aU T rfl rfl rfl rfl rfl rfl (by decide) rfl ?_)|(refine iD ?_)|(refine bS (bM T rfl) rfl ?_))));refine rQ
def vI (l:List Int):Bool:=l.all fun n=>decide (0≤n)&&decide (n≤1099511627776)
theorem MT (l:List Int) (k:Nat) (h:k<l.length):vI (l.drop k)=(decide (0≤l[k])&&decide (l[k]≤1099511627776)&&vI (l.drop (k+1))):=by
  rw [bC h];rfl
theorem H0 (l:List Int) (hm:l.length≤1000):aP Tryz.prog 99 [.rowE (ints l) 1] [] (.b (vI l)) []:=by
  refine bL T Tryz.func99 rfl rfl rfl rfl ?_
  (repeat' (first|(first|(refine eS ?_)|(refine pX ?_)|(refine vP ?_))|(first|(refine vV (by first|exact cP rfl|exact dS rfl|exact lD T rfl rfl) ?_)|(refine iD ?_))));refine cX (X:={k:Nat // k≤(ints l).length∧vI l=vI (l.drop k)}) (fun k=>[(5,.rowE (ints l) 1),(6,.i (ints l).length),(7,.i k.1)]) (fun _=>[]) (fun k=>(ints l).length-k.1) ⟨0,by simp,rfl⟩ (fU []) ?_
  rintro ⟨k,hk,hf⟩;dsimp only;have hlen:(ints l).length=l.length:=by simp
  repeat' (first|(first|(refine eS ?_)|(refine pX ?_)|(refine vP ?_)|(refine tX ?_)|(refine qM ?_)|(refine QJ ?_))|(first|(refine vV (by first|exact dS rfl|exact aK rfl rfl) ?_)|(refine iD ?_))|((refine qR rfl (fun hb=>?_) (fun hb=>?_)<;>(try simp only [nm] at hb))))
  · have hlt:k<l.length:=by omega
    have hs:=MT l k hlt;refine yA (I4 T rfl rfl rfl rfl rfl (by omega) (ints_len l) (iQ hlt)) rfl ?_
    (repeat' (first|(first|(refine eS ?_)|(refine pX ?_)|(refine tX ?_)|(refine qM ?_))|(first|(refine vV (by first|exact cP rfl|exact dS rfl|exact bD T rfl rfl rfl rfl|exact mF rfl rfl|exact oU rfl rfl|exact bP rfl rfl (by omega) (by omega)|exact aK rfl rfl|exact dX rfl rfl) ?_)|(refine iD ?_)|(refine CJ rfl rfl ?_ rfl)|(refine CK rfl rfl ?_ rfl)|(refine rZ rfl rfl (fun hb=>?_) (fun hb=>?_) rfl<;>(rw [hb];(try simp only [nm] at hb))))|(first|(refine wT ?_)|(refine qR rfl (fun hb=>?_) (fun hb=>?_)<;>(try simp only [nm] at hb)))));all_goals first
      | (refine cM (.inl rfl) rfl (lX ?_);rw [hf,hs];simp;omega)
      | (refine ⟨⟨k+1,by omega,?_⟩,by simp;omega,fU []⟩;rw [hf,hs];simp;omega)
  · refine cM (.inl rfl) rfl (lX ?_);rw [hf,dC (by omega)];rfl
theorem YS {a b:Int}(h:0≤a∧a≤1099511627776∧0≤b∧b≤1099511627776):vI [a,b]=true:=by simp [vI];omega
theorem YU {a b:Int}(h:¬ (0≤a∧a≤1099511627776∧0≤b∧b≤1099511627776)):vI [a,b]=false:=by
  rw [← eA];simp [vI];omega
theorem YR {a b c d:Int}(h:0≤a∧a≤1099511627776∧0≤b∧b≤1099511627776∧0≤c∧c≤1099511627776∧0≤d∧d≤1099511627776):vI [a,b,c,d]=true:=by simp [vI];omega
theorem YT {a b c d:Int}(h:¬ (0≤a∧a≤1099511627776∧0≤b∧b≤1099511627776∧0≤c∧c≤1099511627776∧0≤d∧d≤1099511627776)):vI [a,b,c,d]=false:=by
  rw [← eA];simp [vI];omega
theorem zM9 {a b:Int}(h:0≤a∧a≤1099511627776∧0≤b∧b≤1099511627776):aP Tryz.prog 99 [.rowE (ints [a,b]) 1] [] (.b true) []:=YS h▸H0 [a,b] (by simp)
theorem zN1 {a b:Int}(h:¬ (0≤a∧a≤1099511627776∧0≤b∧b≤1099511627776)):aP Tryz.prog 99 [.rowE (ints [a,b]) 1] [] (.b false) []:=YU h▸H0 [a,b] (by simp)
theorem FR {a b c d:Int}(h:0≤a∧a≤1099511627776∧0≤b∧b≤1099511627776∧0≤c∧c≤1099511627776∧0≤d∧d≤1099511627776):aP Tryz.prog 99 [.rowE (ints [a,b,c,d]) 1] [] (.b true) []:=YR h▸H0 [a,b,c,d] (by simp)
theorem zN0 {a b c d:Int}(h:¬ (0≤a∧a≤1099511627776∧0≤b∧b≤1099511627776∧0≤c∧c≤1099511627776∧0≤d∧d≤1099511627776)):aP Tryz.prog 99 [.rowE (ints [a,b,c,d]) 1] [] (.b false) []:=YT h▸H0 [a,b,c,d] (by simp)
theorem SG (f t n s:Int) (hf:0≤f∧f≤20001∧0≤t∧t≤20001) (h:0≤n∧n≤1099511627776∧0≤s∧s≤1099511627776):aP Tryz.prog 65 [mX f t,.i n,.i s] [] (.tup [mX (FZ (f-n-s) (t-max (n-s) 0)) (cutT (f-n-s) (t-max (n-s) 0)),.b (zF (f-n-s) (t-max (n-s) 0))]) []:=by
  refine bL T Tryz.func65 rfl rfl rfl rfl ?_
  (repeat' (first|(first|(refine eS ?_)|(refine pX ?_)|(refine tX ?_)|(refine qM ?_))|(first|(refine vV (by first|exact cP rfl|exact dS rfl|exact cY T rfl rfl rfl|exact bD T rfl rfl rfl rfl|exact cH rfl rfl (by omega) (by omega)|exact cT rfl|exact dU rfl rfl|exact uJ rfl rfl|exact gG T rfl rfl rfl rfl|exact eL rfl rfl (EW _ _) rfl rfl rfl|exact eC rfl rfl (zM9 h) (by ((repeat (first|exact .nil|exact .v _|refine .cons ?_ ?_|refine .sl rfl (by simp) ?_));done)) rfl rfl) ?_)|(refine aU T rfl rfl rfl rfl rfl rfl (by decide) rfl ?_)|(refine iD ?_)|(refine bS (by first|exact bM T rfl|exact bZ rfl rfl|exact bF T rfl rfl (by decide) (by decide) rfl rfl rfl) rfl ?_))|((refine wU ?_))));exact rQ
theorem MA (f t n s:Int) (h:¬ (0≤n∧n≤1099511627776∧0≤s∧s≤1099511627776)):aP Tryz.prog 65 [mX f t,.i n,.i s] [] (.tup [mX 0 0,.b false]) []:=by
  refine bL T Tryz.func65 rfl rfl rfl rfl ?_
  (repeat' (first|(first|(refine eS ?_)|(refine pX ?_)|(refine qM ?_))|(first|(refine vV (by first|exact cP rfl|exact dS rfl|exact cT rfl|exact gG T rfl rfl rfl rfl|exact eC rfl rfl (zN1 h) (by ((repeat (first|exact .nil|exact .v _|refine .cons ?_ ?_|refine .sl rfl (by simp) ?_));done)) rfl rfl) ?_)|(refine aU T rfl rfl rfl rfl rfl rfl (by decide) rfl ?_)|(refine iD ?_)|(refine bS (by first|exact bM T rfl|exact bZ rfl rfl|exact bF T rfl rfl (by decide) (by decide) rfl rfl rfl) rfl ?_))|((refine wT ?_))));exact rQ
def FS (a b c d:Int):Prop:=0≤a∧a≤1099511627776∧0≤b∧b≤1099511627776∧0≤c∧c≤1099511627776∧0≤d∧d≤1099511627776
theorem LK (t u w e:Int) (h:¬ FS t u w e):aP Tryz.prog 62 [.i t,.i u,.i w,.i e] [] (.tup [mX 0 0,.b false]) []:=by
  refine bL T Tryz.func62 rfl rfl rfl rfl ?_
  (repeat' (first|(first|(refine eS ?_)|(refine pX ?_)|(refine qM ?_))|(first|(refine vV (by first|exact cP rfl|exact dS rfl|exact cT rfl|exact gG T rfl rfl rfl rfl|exact eC rfl rfl (zN0 h) (by ((repeat (first|exact .nil|exact .v _|refine .cons ?_ ?_|refine .sl rfl (by simp) ?_));done)) rfl rfl) ?_)|(refine aU T rfl rfl rfl rfl rfl rfl (by decide) rfl ?_)|(refine iD ?_)|(refine bS (by first|exact bM T rfl|exact bF T rfl rfl (by decide) (by decide) rfl rfl rfl) rfl ?_))|((refine wT ?_))));exact rQ
theorem HC (t u w e:Int) (h:FS t u w e) (h1:w+e-t<0∨u=0∧0<w-e-t):aP Tryz.prog 62 [.i t,.i u,.i w,.i e] [] (.tup [mX 0 0,.b false]) []:=by
  have h':=h;unfold FS at h';refine bL T Tryz.func62 rfl rfl rfl rfl ?_
  (repeat' (first|(first|(refine eS ?_)|(refine pX ?_)|(refine vP ?_)|(refine tX ?_)|(refine qM ?_))|(first|(refine vV (by first|exact cP rfl|exact dS rfl|exact mF rfl rfl|exact oU rfl rfl|exact bP rfl rfl (by omega) (by omega)|exact cH rfl rfl (by omega) (by omega)|exact aK rfl rfl|exact dX rfl rfl|exact bW rfl rfl|exact cT rfl|exact gG T rfl rfl rfl rfl|exact eC rfl rfl (FR h) (by ((repeat (first|exact .nil|exact .v _|refine .cons ?_ ?_|refine .sl rfl (by simp) ?_));done)) rfl rfl) ?_)|(refine aU T rfl rfl rfl rfl rfl rfl (by decide) rfl ?_)|(refine iD ?_)|(refine CJ rfl rfl ?_ rfl)|(refine CK rfl rfl ?_ rfl)|(refine NW rfl rfl ?_ rfl)|(refine rZ rfl rfl (fun hb=>?_) (fun hb=>?_) rfl<;>(rw [hb];(try simp only [nm] at hb)))|(refine bS (by first|exact bM T rfl|exact bF T rfl rfl (by decide) (by decide) rfl rfl rfl) rfl ?_))|(first|(refine wT ?_)|(refine wU ?_)|(refine qR rfl (fun hb=>?_) (fun hb=>?_)<;>(try simp only [nm] at hb)))));all_goals first | (exfalso;omega) | exact rQ | skip
theorem HD (t u w e:Int) (h:FS t u w e) (h1:0≤w+e-t) (h2:u=0) (h3:w-e-t≤0):aP Tryz.prog 62 [.i t,.i u,.i w,.i e] [] (.tup [mX 0 20001,.b true]) []:=by
  have h':=h;unfold FS at h';refine bL T Tryz.func62 rfl rfl rfl rfl ?_
  (repeat' (first|(first|(refine eS ?_)|(refine pX ?_)|(refine vP ?_)|(refine tX ?_)|(refine qM ?_))|(first|(refine vV (by first|exact cP rfl|exact dS rfl|exact mF rfl rfl|exact oU rfl rfl|exact bP rfl rfl (by omega) (by omega)|exact cH rfl rfl (by omega) (by omega)|exact aK rfl rfl|exact dX rfl rfl|exact bW rfl rfl|exact cT rfl|exact gG T rfl rfl rfl rfl|exact eC rfl rfl (FR h) (by ((repeat (first|exact .nil|exact .v _|refine .cons ?_ ?_|refine .sl rfl (by simp) ?_));done)) rfl rfl|exact kC (zG6)) ?_)|(refine aU T rfl rfl rfl rfl rfl rfl (by decide) rfl ?_)|(refine iD ?_)|(refine CJ rfl rfl ?_ rfl)|(refine CK rfl rfl ?_ rfl)|(refine NW rfl rfl ?_ rfl)|(refine rZ rfl rfl (fun hb=>?_) (fun hb=>?_) rfl<;>(rw [hb];(try simp only [nm] at hb)))|(refine bS (by first|exact bM T rfl|exact bF T rfl rfl (by decide) (by decide) rfl rfl rfl) rfl ?_))|(first|(refine wT ?_)|(refine wU ?_)|(refine qR rfl (fun hb=>?_) (fun hb=>?_)<;>(try simp only [nm] at hb)))));all_goals first | exact rQ | (exfalso;omega)
def yC1 (t u w e:Int):Int:=(max (w-e-t) 0+u-1) / u
def yC0 (t u w e:Int):Int:=(w+e-t) / u+1
set_option maxHeartbeats 1000000 in
theorem LL (t u w e:Int) (h:FS t u w e) (h1:0≤w+e-t) (h2:0<u):aP Tryz.prog 62 [.i t,.i u,.i w,.i e] [] (.tup [mX (FZ (yC1 t u w e) (yC0 t u w e)) (cutT (yC1 t u w e) (yC0 t u w e)),.b (zF (yC1 t u w e) (yC0 t u w e))]) []:=by
  have h':=h;unfold FS at h';have q1:=Int.ediv_nonneg h1 (Int.le_of_lt h2);have q2:=Int.ediv_le_self u h1;refine bL T Tryz.func62 rfl rfl rfl rfl ?_
  (repeat' (first|(first|(refine eS ?_)|(refine pX ?_)|(refine vP ?_)|(refine tX ?_)|(refine qM ?_))|(first|(refine vV (by first|exact cP rfl|exact dS rfl|exact mF rfl rfl|exact oU rfl rfl|exact bP rfl rfl (by omega) (by omega)|exact cH rfl rfl (by omega) (by omega)|exact aK rfl rfl|exact dX rfl rfl|exact bW rfl rfl|exact cT rfl|exact gG T rfl rfl rfl rfl|exact eC rfl rfl (FR h) (by ((repeat (first|exact .nil|exact .v _|refine .cons ?_ ?_|refine .sl rfl (by simp) ?_));done)) rfl rfl) ?_)|(refine aU T rfl rfl rfl rfl rfl rfl (by decide) rfl ?_)|(refine iD ?_)|(refine CJ rfl rfl ?_ rfl)|(refine CK rfl rfl ?_ rfl)|(refine NW rfl rfl ?_ rfl)|(refine rZ rfl rfl (fun hb=>?_) (fun hb=>?_) rfl<;>(rw [hb];(try simp only [nm] at hb)))|(refine bS (by first|exact bM T rfl|exact bF T rfl rfl (by decide) (by decide) rfl rfl rfl) rfl ?_))|(first|(refine dV rfl (by first|exact cP rfl|exact bP rfl rfl (by omega) (by omega)|exact cH rfl rfl (by omega) (by omega)|exact zL5 rfl rfl (by omega) (by omega) (by omega)|exact dU rfl rfl|exact uJ rfl rfl|exact gG T rfl rfl rfl rfl|exact eL rfl rfl (EW _ _) rfl rfl rfl) ?_)|(refine FY rfl rfl (by (dsimp only [List.nil_append,List.cons_append,mO,List.append_nil];done)) ?_))|(refine KP (id:=8) [[],[0],[],[0,1,2],rN 4,[],rN 6,[],[],[7,8],[7,8,9],rN 11,rN 12,rN 13,rN 13] (rM 46 15) [[],[],[46,47],[],[],rM 46 5,[],rM 46 7,rM 46 8,rM 46 7,rM 46 7,[],[],[],[59]] cK (by decide +kernel) ?_)|(first|(refine wT ?_)|(refine wU ?_)|(refine qR rfl (fun hb=>?_) (fun hb=>?_)<;>(try simp only [nm] at hb)))));all_goals first | (exfalso;omega) | exact rQ
end Go.Proofs.YtojgimibalokkaaGreat
namespace Go.Ld
open Go.Ab Go.Proofs.YtojgimibalokkaaGreat
abbrev SP:=Int × Int
abbrev W:=List Int × Int × List SP
abbrev G:=List Int × List W
abbrev fI (l:List SP):List (List AV):=l.map fun p=>[AV.i p.1,AV.i p.2]
abbrev wA (w:W):List AV:=[.rowE (Go.Proofs.YtojgimibalokkaaGreat.ints w.1) 1,.i w.2.1,.rowE (fI w.2.2) 2]
abbrev wsA (l:List W):List (List AV):=l.map wA
abbrev gA (g:G):List AV:=[.rowE (Go.Proofs.YtojgimibalokkaaGreat.ints g.1) 1,.rowE (wsA g.2) 3]
abbrev kB (l:List G):List (List AV):=l.map gA
def cI (a b:Int):Int:=if a<b then -1 else if b<a then 1 else 0
def P6 (a b:Int):Int:=if a=0 then b else a
def cL:List Int→List Int→Int
  | [],[]=>0
  | [],_::_=>-1
  | _::_,[]=>1
  | x::a,y::b=>P6 (cI x y) (cL a b)
def cS (x y:SP):Int:=P6 (cI x.1 y.1) (cI x.2 y.2)
def cB:List SP→List SP→Int
  | [],[]=>0
  | [],_::_=>-1
  | _::_,[]=>1
  | x::a,y::b=>P6 (cS x y) (cB a b)
def oR (a b:W):Int:=P6 (cL a.1 b.1) (cB a.2.2 b.2.2)
def eR (a b:W):Int:=P6 (oR a b) (cI a.2.1 b.2.1)
structure EN {α:Type} (c:α→α→Int):Prop where
  eq:∀ a b,c a b=0↔a=b
  neg:∀ a b,c a b = - c b a
  tr:∀ a b d,c a b<0→c b d<0→c a d<0
theorem EN.rfl' {α:Type}{c:α→α→Int}(h:EN c) (a:α):c a a=0:=(h.eq a a).2 rfl
theorem EN.le_tr {α:Type}{c:α→α→Int}(h:EN c){a b d:α}(h1:c a b≤0) (h2:c b d≤0):c a d≤0:=by
  by_cases e:c a b=0
  · rw [(h.eq _ _).1 e];exact h2
  · by_cases e':c b d=0
    · rw [← (h.eq _ _).1 e'];exact h1
    · have:=h.tr a b d (by omega) (by omega);omega
theorem pU:EN cI where
  eq a b:=by unfold cI;split <;> (try split) <;> omega
  neg a b:=by unfold cI;split <;> split <;> (try split) <;> omega
  tr a b d := by unfold cI; repeat' split
                 all_goals omega
theorem FB {a b:Int}:P6 a b=0↔a=0∧b=0:=by unfold P6;split <;> omega
theorem FA {a b:Int}:P6 (-a) (-b) = - P6 a b:=by unfold P6;split <;> split <;> omega
theorem MF {a b:Int}:P6 a b<0↔a<0∨a=0∧b<0:=by unfold P6;split <;> omega
theorem EN.lex {α β γ:Type}{c:α→α→Int}{d:β→β→Int}(hc:EN c) (hd:EN d) (f:γ→α) (g:γ→β) (inj:∀ x y,f x=f y→g x=g y→x=y):EN fun x y=>P6 (c (f x) (f y)) (d (g x) (g y)) where
  eq a b:=by
    rw [FB,hc.eq,hd.eq];exact ⟨fun h=>inj _ _ h.1 h.2,fun h=>by rw [h];exact ⟨rfl,rfl⟩⟩
  neg a b:=by rw [hc.neg,hd.neg,FA]
  tr a b e h1 h2:=by
    simp only [MF] at *;rcases h1 with h1 | ⟨h1,h1'⟩
    · rcases h2 with h2 | ⟨h2,h2'⟩
      · exact .inl (hc.tr _ _ _ h1 h2)
      · rw [(hc.eq _ _).1 h2] at h1;exact .inl h1
    · rw [(hc.eq _ _).1 h1];rcases h2 with h2 | ⟨h2,h2'⟩
      · exact .inl h2
      · exact .inr ⟨h2,hd.tr _ _ _ h1' h2'⟩
theorem ZP:EN cL where
  eq:=fun a=>by
    induction a with
    | nil=>intro b;cases b <;> simp [cL]
    | cons x a ih=>intro b; cases b with
      | nil=>simp [cL]
      | cons y b=>simp only [cL,FB,pU.eq,ih,List.cons.injEq]
  neg:=fun a=>by
    induction a with
    | nil=>intro b;cases b <;> simp [cL]
    | cons x a ih=>intro b; cases b with
      | nil=>simp [cL]
      | cons y b=>simp only [cL];rw [pU.neg,ih,FA]
  tr:=fun a=>by
    induction a with
    | nil=>intro b d;cases b <;> cases d <;> simp [cL]
    | cons x a ih=>
      intro b d h1 h2;cases b with
      | nil=>simp [cL] at h1
      | cons y b=>cases d with
        | nil=>simp [cL] at h2
        | cons z d=>
          simp only [cL,MF] at *;rcases h1 with h1 | ⟨h1,h1'⟩
          · rcases h2 with h2 | ⟨h2,h2'⟩
            · exact .inl (pU.tr _ _ _ h1 h2)
            · rw [(pU.eq _ _).1 h2] at h1;exact .inl h1
          · rw [(pU.eq _ _).1 h1];rcases h2 with h2 | ⟨h2,h2'⟩
            · exact .inl h2
            · exact .inr ⟨h2,ih _ _ h1' h2'⟩
theorem AR:EN cS:=EN.lex pU pU (·.1) (·.2) fun x y h1 h2=>Prod.ext h1 h2
theorem ZQ:EN cB where
  eq:=fun a=>by
    induction a with
    | nil=>intro b;cases b <;> simp [cB]
    | cons x a ih=>intro b; cases b with
      | nil=>simp [cB]
      | cons y b=>simp only [cB,FB,AR.eq,ih,List.cons.injEq]
  neg:=fun a=>by
    induction a with
    | nil=>intro b;cases b <;> simp [cB]
    | cons x a ih=>intro b; cases b with
      | nil=>simp [cB]
      | cons y b=>simp only [cB];rw [AR.neg,ih,FA]
  tr:=fun a=>by
    induction a with
    | nil=>intro b d;cases b <;> cases d <;> simp [cB]
    | cons x a ih=>
      intro b d h1 h2;cases b with
      | nil=>simp [cB] at h1
      | cons y b=>cases d with
        | nil=>simp [cB] at h2
        | cons z d=>
          simp only [cB,MF] at *;rcases h1 with h1 | ⟨h1,h1'⟩
          · rcases h2 with h2 | ⟨h2,h2'⟩
            · exact .inl (AR.tr _ _ _ h1 h2)
            · rw [(AR.eq _ _).1 h2] at h1;exact .inl h1
          · rw [(AR.eq _ _).1 h1];rcases h2 with h2 | ⟨h2,h2'⟩
            · exact .inl h2
            · exact .inr ⟨h2,ih _ _ h1' h2'⟩
theorem IK:EN (fun x y:List Int × List SP=>P6 (cL x.1 y.1) (cB x.2 y.2)):=EN.lex ZP ZQ (·.1) (·.2) fun x y h1 h2=>Prod.ext h1 h2
theorem jD:EN eR:=EN.lex IK pU (fun w:W=>(w.1,w.2.2)) (fun w=>w.2.1) fun x y h1 h2=>by
  obtain ⟨a,b,c⟩:=x;obtain ⟨a',b',c'⟩:=y;simp at h1 h2;obtain ⟨h1,h3⟩:=h1;rw [h1,h2,h3]
theorem oX {a b:W}:oR a b=0↔a.1=b.1∧a.2.2=b.2.2:=by unfold oR;rw [FB,ZP.eq,ZQ.eq]
def BT {α:Type}(c:α→α→Int) (w:α):List α→List α
  | []=>[w]
  | x::l=>if c w x≤0 then w::x::l else x::BT c w l
def eH {α:Type}(c:α→α→Int):List α→List α
  | []=>[]
  | x::l=>BT c x (eH c l)
theorem A9 {α:Type}(c:α→α→Int) (w:α):∀ l,(BT c w l).Perm (w::l)
  | []=>.refl _
  | x::l=>by
    unfold BT;split
    · exact .refl _
    · exact ((A9 c w l).cons x).trans (.swap _ _ _)
theorem dZ {α:Type}(c:α→α→Int):∀ l,(eH c l).Perm l
  | []=>.refl _
  | x::l=>(A9 c x _).trans ((dZ c l).cons x)
theorem PL {α:Type}{c:α→α→Int}(h:EN c) (w:α):∀ {l:List α},l.Pairwise (fun a b=>c a b≤0)→(BT c w l).Pairwise (fun a b=>c a b≤0)
  | [],_=>kA _ _
  | x::l,hl=>by
    rw [fA] at hl;unfold BT;split
    · rename_i hw;rw [fA,fA];refine ⟨fun y hy=>?_,hl⟩
      rcases bT.1 hy with rfl | hy
      · exact hw
      · exact h.le_tr hw (hl.1 y hy)
    · rename_i hw;rw [fA];refine ⟨fun y hy=>?_,PL h w hl.2⟩
      rcases bT.1 ((A9 c w l).mem_iff.1 hy) with rfl | hy
      · have:=h.neg x y;omega
      · exact hl.1 y hy
theorem lG {α:Type}{c:α→α→Int}(h:EN c):∀ l,(eH c l).Pairwise (fun a b=>c a b≤0)
  | []=>.nil
  | x::l=>PL h x (lG h l)
theorem E6 {α:Type}{c:α→α→Int}(h:EN c){l m:List α}(hp:m.Perm l) (hm:m.Pairwise (fun a b=>c a b≤0)):m=eH c l:=
  List.Perm.eq_of_pairwise (le:=fun a b=>c a b≤0) (fun a b _ _ h1 h2=>(h.eq a b).1 (by have:=h.neg a b;omega)) hm (lG h l) (hp.trans (dZ c l).symm)
def kK {α:Type}(e:α→α→Bool) (p:α):List α→List α
  | []=>[]
  | y::l=>if e y p then kK e y l else y::kK e y l
def zG {α:Type}(e:α→α→Bool):List α→List α
  | []=>[]
  | x::l=>x::kK e x l
def D4 (a b:W):Bool:=decide (oR a b=0)
def fN (l:List W):List W:=zG D4 (eH eR l)
structure Cx where
  m:Int
  st:Int
  er:Int
  sl:Int
  ks:List KD
  ls:List LT
  bs:List BX
structure Ev where
  k:Int
  a:Int
  b:Int
  n:Int
  ids:List Int
def gP (w:W) (i:Nat):Int:=w.1.getD i 0
def gC (w:W) (i:Nat):SP:=w.2.2.getD i (0,0)
def sC (w:W) (i:Nat) (r:SP):W:=(w.1,w.2.1,w.2.2.set i r)
def J1 (f t:Int):SP × Bool:=((FZ f t,cutT f t),zF f t)
def DX (a b c d:Int):Bool:=decide (0≤a∧a≤1099511627776∧0≤b∧b≤1099511627776∧0≤c∧c≤1099511627776∧0≤d∧d≤1099511627776)
def UX (t u w e:Int):SP × Bool:=if DX t u w e=true then (if w+e-t<0∨u=0∧0<w-e-t then ((0,0),false) else if u=0 then ((0,20001),true) else J1 (yC1 t u w e) (yC0 t u w e)) else ((0,0),false)
def uC (t u w e:Int) (r:SP):SP × Bool:=let q:=UX t u w e;if q.2 then J1 (max r.1 q.1.1) (min r.2 q.1.2) else q
def yS (r:SP) (n s:Int):SP × Bool:=if 0≤n∧n≤1099511627776∧0≤s∧s≤1099511627776 then J1 (r.1-n-s) (r.2-max (n-s) 0) else ((0,0),false)
def jK (c:Cx) (w:W) (i:Nat) (s:Ev):W × Bool:=
  if s.k=0 then (if gP w i∈s.ids then (w,decide ((s.ids.length:Int)-1≤c.st)) else ((w.1,w.2.1+1,w.2.2),decide ((s.ids.length:Int)≤c.st)))
  else if s.k=1 then
    let b:=c.bs.getD (gP w i).toNat (0,0,0)
    let q:=uC b.2.2 (mT c.ks c.ls b.1) s.n c.er (gC w i)
    (sC w i q.1,q.2)
  else if s.k=2 then let q:=yS (gC w i) s.n c.sl;(sC w i q.1,q.2)
  else if s.k=3 then (sC w i (s.n,s.n+1),vH (gC w i).1 (gC w i).2 s.n)
  else if s.k=5 then (w,decide (gP w i=s.n))
  else (w,true)
def oV (w:W) (i k:Nat):W:=((w.1.set i (gP w k)).set k (gP w i),w.2.1,(w.2.2.set i (gC w k)).set k (gC w i))
def nS (l:List G) (b:Int):Int:=match l.findIdx? fun g=>decide (b∈g.1) with
  | some i=>i
  | none=>-1
def D1 (a b:G) (x y:W) (l:List Int):W:=(l.map (fun k=>if k∈a.1 then gP x (a.1.idxOf k) else gP y (b.1.idxOf k)),x.2.1+y.2.1,l.map (fun k=>if k∈a.1 then gC x (a.1.idxOf k) else gC y (b.1.idxOf k)))
def oZ (a b:G) (l:List Int):List W:=a.2.flatMap fun x=>b.2.map fun y=>D1 a b x y l
def pM (l:List G) (i:Nat):G:=l.getD i ([],[])
def nB (x y:G):G:=let bodies:=eH cI (x.1++y.1);(bodies,oZ x y bodies)
def join (l:List G) (a b:Int):Option (List G):=
  let i:=nS l a;let k:=nS l b
  if i=k then some l else
  let x:=pM l i.toNat;let y:=pM l k.toNat
  if 6<x.1.length+y.1.length∨1000<x.2.length*y.2.length then none else
  some ((l.set (min i k).toNat (nB x y)).eraseIdx (max i k).toNat)
def iX (g:G):Int:=match g.2 with
  | []=>0
  | w::l=>l.foldl (fun m x=>if x.2.1<m then x.2.1 else m) w.2.1
def yJ (g:G) (i:Nat):Bool:=match g.2 with
  | []=>false
  | f::l=>(f::l).all fun w=>decide (gP w i=gP f i∧gC w i=gC f i)
def gX (g:G):Option Nat:=if g.1.length<2∨g.2=[] then none else (List.range g.1.length).find? (yJ g)
def iI (g:G):W:=g.2.headD ([],0,[])
def mY (g:G) (k:Nat):G:=([g.1.getD k 0],[([gP (iI g) k],0,[gC (iI g) k])])
def jY (g:G) (k:Nat):G:=(g.1.eraseIdx k,fN (g.2.map fun w=>(w.1.eraseIdx k,w.2.1,w.2.2.eraseIdx k)))
def mL:Nat→G→List G
  | 0,g=>[g]
  | n+1,g=>match gX g with
    | none=>[g]
    | some k=>mY g k::mL n (jY g k)
def cG (a b:G):Int:=cI (a.1.headD 0) (b.1.headD 0)
def sI (l:List G):List G:=eH cG (l.flatMap fun g=>mL g.1.length g)
def nN (l:List G):Int:=(l.map iX).sum
def paid (c:Cx) (all:List G):List G:=all.map fun g=>(g.1,g.2.filter fun w=>decide (w.2.1+(nN all-iX g)≤c.m))
def uD (c:Cx) (all:List G):List G:=sI (paid c all)
def jU (c:Cx) (s:Ev) (g:G):List W:=
  let i:=g.1.idxOf s.a
  g.2.flatMap fun w=>(if (jK c w i s).2 then [(jK c w i s).1] else [])++(if s.k=4 then [oV w i (g.1.idxOf s.b)] else [])
def zA4 (l:List Int) (n:Int):Bool:=(List.range l.length).all fun i=>decide (0≤l.getD i 0∧l.getD i 0≤n-1∧(0<i→l.getD (i-1) 0<l.getD i 0))
def gH (n:Int) (s:Ev):Bool:=decide (0≤s.a∧s.a≤n-1)&&decide (s.k=0∨s.ids.length=0)&&decide (s.k=4∨s.b=0) &&
  (if s.k=0 then decide (s.n=0)&&zA4 s.ids n else if s.k=1∨s.k=2∨s.k=3 then decide (0≤s.n∧s.n≤1099511627776) else if s.k=4 then decide (s.n=0∧s.a+1≤s.b∧s.b≤n-1) else if s.k=5 then decide (0≤s.n∧s.n≤n-1) else false)
def wJ (c:Cx) (l all:List G) (s:Ev):Int × List G:=
  let at_:=(nS all s.a).toNat
  let g:=pM all at_
  let ws:=fN (jU c s g)
  if ws=[] then (26,l) else if 1000<ws.length then (6,l) else
  let out:=uD c (all.set at_ (g.1,ws))
  if out.any (fun g=>g.2.isEmpty) then (26,l) else (0,out)
def lR (c:Cx) (l:List G) (s:Ev):Int × List G:=
  if gH c.bs.length s then
    (if s.k=4 then (match join l s.a s.b with
      | none=>(6,l)
      | some all=>wJ c l all s)
    else wJ c l l s)
  else (1,l)
def uG (c:Cx):List G:=(List.range c.bs.length).map fun (i:Nat)=>([(i:Int)],[([(i:Int)],0,[((c.bs.getD i (0,0,0)).2.1,(c.bs.getD i (0,0,0)).2.1+1)])])
theorem zH7 {a b d:W}(h1:oR a b<0) (h2:oR b d<0):oR a d<0:=IK.tr (a.1,a.2.2) (b.1,b.2.2) (d.1,d.2.2) h1 h2
theorem MD {a b d:W}(h:oR b a=0):oR a d=oR b d:=by
  obtain ⟨h1,h2⟩:=oX.1 h;unfold oR;rw [h1,h2]
theorem QD {a b:W}(h:eR a b≤0):oR a b<0∨oR a b=0∧a.2.1≤b.2.1:=by
  unfold eR P6 at h;split at h
  · rename_i e;refine .inr ⟨e,?_⟩;unfold cI at h;split at h <;> (try split at h) <;> omega
  · omega
theorem xF {α:Type}(e:α→α→Bool):∀ (p:α) (l:List α),(kK e p l).Sublist l
  | _,[]=>.slnil
  | p,y::l=>by
    unfold kK;split
    · exact (xF e y l).cons _
    · exact (xF e y l).cons_cons _
theorem ED {α:Type}(e:α→α→Bool):∀ (l:List α),(zG e l).Sublist l
  | []=>.slnil
  | x::l=>(xF e x l).cons_cons _
theorem qX {l:List W}{w:W}(h:w∈fN l):w∈l:=(dZ eR l).mem_iff.1 ((ED _ _).mem h)
theorem tR (l:List W):(fN l).length≤l.length:=by
  have:=(ED D4 (eH eR l)).length_le;rw [(dZ eR l).length_eq] at this;exact this
theorem uM:∀ (l:List W) (q p:W),(p::l).Pairwise (fun a b=>eR a b≤0)→oR q p=0→q.2.1≤p.2.1→∀ w,w∈p::l→∃ v,v∈q::kK D4 p l∧oR v w=0∧v.2.1≤w.2.1
  | [],q,p,hs,h1,h2,w,hw=>by
    rcases bT.1 hw with rfl | hw
    · exact ⟨q,aR,h1,h2⟩
    · cases hw
  | y::l,q,p,hs,h1,h2,w,hw=>by
    have hs':=fA.1 hs;rcases bT.1 hw with rfl | hw
    · exact ⟨q,aR,h1,h2⟩
    · unfold kK;by_cases e:D4 y p=true
      · rw [if_pos e];have e':oR y p=0:=by unfold D4 at e;simpa using e
        have hpy:oR p y=0:=by obtain ⟨a,b⟩:=oX.1 e';exact oX.2 ⟨a.symm,b.symm⟩
        rcases QD (hs'.1 y aR) with hl | ⟨_,hl⟩
        · omega
        · refine uM l q y hs'.2 ?_ (by omega) w hw
          obtain ⟨a,b⟩:=oX.1 h1;obtain ⟨a',b'⟩:=oX.1 hpy;exact oX.2 ⟨a.trans a',b.trans b'⟩
      · rw [if_neg e];obtain ⟨v,hv,h3,h4⟩:=uM l y y hs'.2 (oX.2 ⟨rfl,rfl⟩) (fK _) w hw;exact ⟨v,aL _ hv,h3,h4⟩
theorem wM {l:List W}{w:W}(h:w∈l):∃ v,v∈fN l∧v.1=w.1∧v.2.2=w.2.2∧v.2.1≤w.2.1:=by
  have hs:=lG jD l;have hw:=(dZ eR l).mem_iff.2 h;unfold fN;generalize eH eR l=m at *;cases m with
  | nil=>cases hw
  | cons x m=>
    obtain ⟨v,hv,h1,h2⟩:=uM m x x hs (oX.2 ⟨rfl,rfl⟩) (fK _) w hw;exact ⟨v,hv,(oX.1 h1).1,(oX.1 h1).2,h2⟩
theorem Q8:∀ (l:List W) (p:W),(p::l).Pairwise (fun a b=>eR a b≤0)→(∀ z,z∈kK D4 p l→oR p z<0)∧(kK D4 p l).Pairwise (fun a b=>oR a b<0)
  | [],p,_=>⟨fun z hz=>(by cases hz),.nil⟩
  | y::l,p,hs=>by
    have hs':=fA.1 hs;obtain ⟨h1,h2⟩:=Q8 l y hs'.2;unfold kK;by_cases e:D4 y p=true
    · rw [if_pos e];have e':oR y p=0:=by unfold D4 at e;simpa using e
      exact ⟨fun z hz=>by rw [MD e'];exact h1 z hz,h2⟩
    · rw [if_neg e];have e':oR p y<0:=by
        rcases QD (hs'.1 y aR) with hl | ⟨hl,_⟩
        · exact hl
        · exfalso;apply e;unfold D4;obtain ⟨a,b⟩:=oX.1 hl;simp [oX.2 ⟨a.symm,b.symm⟩]
      refine ⟨fun z hz=>?_,fA.2 ⟨h1,h2⟩⟩
      rcases bT.1 hz with rfl | hz
      · exact e'
      · exact zH7 e' (h1 z hz)
theorem Y5 (l:List W):(fN l).Pairwise (fun a b=>oR a b<0):=by
  have hs:=lG jD l;unfold fN;generalize eH eR l=m at *;cases m with
  | nil=>exact .nil
  | cons x m=>exact fA.2 (Q8 m x hs)
theorem P5 {l:List W}:fN l=[]↔l=[]:=by
  constructor
  · intro h;cases l with
    | nil=>rfl
    | cons x l=>obtain ⟨v,hv,_⟩:=wM (l:=x::l) (w:=x) aR;rw [h] at hv;cases hv
  · rintro rfl;rfl
abbrev As:=Int→Int × SP
def oJ (bs:List Int) (w:W) (f:As):Prop:=w.1=bs.map (fun b=>(f b).1)∧w.2.2=bs.map (fun b=>(f b).2)
def F5 (g:G) (f:As) (m:Int):Prop:=∃ w,w∈g.2∧oJ g.1 w f∧w.2.1≤m
def Sem:List G→As→Int→Prop
  | [],_,M=>0≤M
  | g::gs,f,M=>∃ m,F5 g f m∧Sem gs f (M-m)
theorem F5.mono {g:G}{f:As}{m m':Int}(h:F5 g f m) (hm:m≤m'):F5 g f m':=by
  obtain ⟨w,h1,h2,h3⟩:=h;exact ⟨w,h1,h2,by omega⟩
theorem Sem.mono:∀ {gs:List G}{f:As}{M M':Int},Sem gs f M→M≤M'→Sem gs f M'
  | [],f,M,M',h,hm=>by unfold Sem at *;omega
  | g::gs,f,M,M',⟨m,h1,h2⟩,hm=>⟨m,h1,h2.mono (by omega)⟩
theorem OJ {g:G}{f:As}{M:Int}:Sem [g] f M↔F5 g f M:=by
  constructor
  · rintro ⟨m,h1,h2⟩;unfold Sem at h2;exact h1.mono (by omega)
  · intro h;exact ⟨M,h,by unfold Sem;omega⟩
theorem EU:∀ (a b:List G) (f:As) (M:Int),Sem (a++b) f M↔∃ m,Sem a f m∧Sem b f (M-m)
  | [],b,f,M=>by
    constructor
    · intro h;exact ⟨0,by unfold Sem;omega,by rw [Int.sub_zero];exact h⟩
    · rintro ⟨m,h1,h2⟩;unfold Sem at h1;exact h2.mono (by omega)
  | g::a,b,f,M=>by
    simp only [List.cons_append,Sem];constructor
    · rintro ⟨m,h1,h2⟩;obtain ⟨m',h3,h4⟩:=(EU a b f _).1 h2;exact ⟨m+m',⟨m,h1,h3.mono (by omega)⟩,h4.mono (by omega)⟩
    · rintro ⟨m,⟨m',h1,h2⟩,h3⟩;exact ⟨m',h1,(EU a b f _).2 ⟨m-m',h2,h3.mono (by omega)⟩⟩
theorem oP {a b:List G}(h:a.Perm b):∀ {f:As}{M:Int},Sem a f M↔Sem b f M:=by
  induction h with
  | nil=>intro f M;exact Iff.rfl
  | cons x _ ih=>intro f M;simp only [Sem,ih]
  | swap x y l=>
    intro f M;simp only [Sem];constructor
    · rintro ⟨m,h1,m',h2,h3⟩;exact ⟨m',h2,m,h1,h3.mono (by omega)⟩
    · rintro ⟨m,h1,m',h2,h3⟩;exact ⟨m',h2,m,h1,h3.mono (by omega)⟩
  | trans _ _ ih1 ih2=>intro f M;rw [ih1,ih2]
theorem HW {F:G→List G}{f:As}:∀ {gs:List G},(∀ g,g∈gs→∀ M,Sem (F g) f M↔F5 g f M)→∀ {M:Int},Sem (gs.flatMap F) f M↔Sem gs f M
  | [],_,M=>Iff.rfl
  | g::gs,h,M=>by
    rw [bJ,EU];simp only [Sem,HW (fun g hg=>h g (aL _ hg)),h g aR]
theorem P7 {bs:List Int}{l:List W}{f:As}{m:Int}:F5 (bs,fN l) f m↔F5 (bs,l) f m:=by
  constructor
  · rintro ⟨w,h1,h2,h3⟩;exact ⟨w,qX h1,h2,h3⟩
  · rintro ⟨w,h1,h2,h3⟩;obtain ⟨v,hv,a,b,d⟩:=wM h1;exact ⟨v,hv,⟨a.trans h2.1,b.trans h2.2⟩,F6 d h3⟩
def LH (r:SP):Prop:=0≤r.1∧r.1<r.2∧r.2≤20001
structure EK (n k:Nat) (w:W):Prop where
  pl:w.1.length=k
  cl:w.2.2.length=k
  pr:∀ x,x∈w.1→0≤x∧x<n
  nd:w.1.Nodup
  m0:0≤w.2.1
  m1:w.2.1≤4000000
  sp:∀ r,r∈w.2.2→LH r
structure uB (n:Nat) (g:G):Prop where
  ne:g.1≠[]
  up:g.1.Pairwise (· < ·)
  rg:∀ b,b∈g.1→0≤b∧b<n
  ln:g.1.length≤6
  ws:∀ w,w∈g.2→EK n g.1.length w
  same:∀ w v,w∈g.2→v∈g.2→w.1.Perm v.1
theorem uB.nd {n:Nat}{g:G}(h:uB n g):g.1.Nodup:=h.up.imp (fun h=>by omega)
theorem N8:∀ (l:List W) (a:Int),l.foldl (fun m x=>if x.2.1<m then x.2.1 else m) a≤a∧(∀ x,x∈l→l.foldl (fun m x=>if x.2.1<m then x.2.1 else m) a≤x.2.1)∧(l.foldl (fun m x=>if x.2.1<m then x.2.1 else m) a=a∨∃ x,x∈l∧l.foldl (fun m x=>if x.2.1<m then x.2.1 else m) a=x.2.1)
  | [],a=>⟨fK _,fun x hx=>(by cases hx),.inl rfl⟩
  | y::l,a=>by
    rw [jT];obtain ⟨h1,h2,h3⟩:=N8 l (if y.2.1<a then y.2.1 else a)
    generalize l.foldl (fun m x=>if x.2.1<m then x.2.1 else m) (if y.2.1<a then y.2.1 else a)=q at *
    refine ⟨by split at h1 <;> omega,fun x hx=>?_,?_⟩
    · rcases bT.1 hx with rfl | hx
      · split at h1 <;> omega
      · exact h2 x hx
    · rcases h3 with h3 | ⟨x,hx,h3⟩
      · split at h3
        · exact .inr ⟨y,aR,h3⟩
        · exact .inl h3
      · exact .inr ⟨x,aL _ hx,h3⟩
theorem Z3 {g:G}{w:W}(h:w∈g.2):iX g≤w.2.1:=by
  unfold iX;cases hg:g.2 with
  | nil=>rw [hg] at h;cases h
  | cons x l=>
    rw [hg] at h;obtain ⟨h1,h2,h3⟩:=N8 l x.2.1;rcases bT.1 h with rfl | h
    · exact h1
    · exact h2 _ h
theorem DM {g:G}(h:g.2≠[]):∃ w,w∈g.2∧w.2.1=iX g:=by
  unfold iX;cases hg:g.2 with
  | nil=>exact absurd hg h
  | cons x l=>
    obtain ⟨h1,h2,h3⟩:=N8 l x.2.1;rcases h3 with h3 | ⟨y,hy,h3⟩
    · exact ⟨x,aR,h3.symm⟩
    · exact ⟨y,aL _ hy,h3.symm⟩
theorem SM {g:G}{f:As}{m:Int}(h:F5 g f m):iX g≤m:=by
  obtain ⟨w,h1,_,h3⟩:=h;exact F6 (Z3 h1) h3
theorem CS:∀ {gs:List G}{f:As}{M:Int},Sem gs f M→nN gs≤M
  | [],f,M,h=>by unfold Sem at h;simpa [nN] using h
  | g::gs,f,M,⟨m,h1,h2⟩=>by
    have:=SM h1;have:=CS h2;simp only [nN,List.map_cons,yJ2] at *;omega
def yD4 (c:Cx) (S:Int) (all:List G):List G:=all.map fun g=>(g.1,g.2.filter fun w=>decide (w.2.1+(S-iX g)≤c.m))
theorem L5 {c:Cx}{S:Int}:∀ {gs:List G}{f:As}{M:Int},M+(S-nN gs)≤c.m→(Sem (yD4 c S gs) f M↔Sem gs f M)
  | [],f,M,h=>Iff.rfl
  | g::gs,f,M,h=>by
    have e:nN (g::gs)=iX g+nN gs:=by simp [nN]
    constructor
    · rintro ⟨m,⟨w,h1,h2,h3⟩,h4⟩;have h1':=(nL.1 h1).1;have:=Z3 h1';exact ⟨m,⟨w,h1',h2,h3⟩,(L5 (by omega)).1 h4⟩
    · rintro ⟨m,⟨w,h1,h2,h3⟩,h4⟩;have:=Z3 h1;have:=CS h4;refine ⟨m,⟨w,?_,h2,h3⟩,(L5 (by omega)).2 h4⟩
      rw [nL];refine ⟨h1,?_⟩;simp only [decide_eq_true_eq];omega
theorem VW {c:Cx}{gs:List G}{f:As}{M:Int}(h:M≤c.m):Sem (paid c gs) f M↔Sem gs f M:=L5 (S:=nN gs) (by omega)
theorem N6 {bs:List Int}{w:W}{f:As}(h:oJ bs w f){i:Nat}(hi:i<bs.length):gP w i=(f bs[i]).1:=by
  unfold gP;rw [h.1];simp [List.getD,hi]
theorem Z7 {bs:List Int}{w:W}{f:As}(h:oJ bs w f){i:Nat}(hi:i<bs.length):gC w i=(f bs[i]).2:=by
  unfold gC;rw [h.2];simp [List.getD,hi]
theorem vB {α β:Type}(f:α→β):∀ (l:List α) (k:Nat),(l.map f).eraseIdx k=(l.eraseIdx k).map f
  | [],_=>rfl
  | x::l,0=>rfl
  | x::l,k+1=>by simp [vB f l k]
def zN7 (k:Nat) (w:W):W:=(w.1.eraseIdx k,w.2.1,w.2.2.eraseIdx k)
theorem xB {α:Type}:∀ {k:Nat}{a b:List α}(x:α),a.length=b.length→a.getD k x=b.getD k x→a.eraseIdx k=b.eraseIdx k→a=b
  | _,[],[],_,_,_,_=>rfl
  | _,[],_::_,_,h,_,_=>by simp at h
  | _,_::_,[],_,h,_,_=>by simp at h
  | 0,y::a,z::b,x,h,h1,h2=>by
    simp at h1 h2;rw [h1,h2]
  | k+1,y::a,z::b,x,h,h1,h2=>by
    simp at h h1 h2;rw [h2.1,xB x h (by simpa using h1) h2.2]
theorem AD {bs:List Int}{w:W}{f:As}{k:Nat}(hk:k<bs.length) (h1:w.1.length=bs.length) (h2:w.2.2.length=bs.length) :
    oJ bs w f↔oJ (bs.eraseIdx k) (zN7 k w) f∧gP w k=(f (bs.getD k 0)).1∧gC w k=(f (bs.getD k 0)).2:=by
  have hb:bs.getD k 0=bs[k]:=by simp [List.getD,hk]
  constructor
  · intro h;refine ⟨⟨?_,?_⟩,?_,?_⟩
    · show w.1.eraseIdx k=_;rw [h.1,vB]
    · show w.2.2.eraseIdx k=_;rw [h.2,vB]
    · rw [hb];exact N6 h hk
    · rw [hb];exact Z7 h hk
  · rintro ⟨h,h3,h4⟩;rw [hb] at h3 h4;constructor
    · refine xB (k:=k) 0 (by simp [h1]) ?_ (by rw [vB];exact h.1)
      rw [show w.1.getD k 0=gP w k from rfl,h3];simp [List.getD,hk]
    · refine xB (k:=k) (0,0) (by simp [h2]) ?_ (by rw [vB];exact h.2)
      rw [show w.2.2.getD k (0,0)=gC w k from rfl,h4];simp [List.getD,hk]
theorem LU {g:G}{i:Nat}(hne:g.2≠[]):yJ g i=true↔∀ w,w∈g.2→gP w i=gP (iI g) i∧gC w i=gC (iI g) i:=by
  unfold yJ iI;cases hg:g.2 with
  | nil=>exact absurd hg hne
  | cons f l=>simp
theorem jE {g:G}{k:Nat}(h:gX g=some k):2≤g.1.length∧g.2≠[]∧k<g.1.length∧∀ w,w∈g.2→gP w k=gP (iI g) k∧gC w k=gC (iI g) k:=by
  unfold gX at h;split at h
  · cases h
  · rename_i hc;have hne:g.2≠[]:=fun e=>hc (.inr e)
    have h1:=List.find?_some h;have h2:=List.mem_of_find?_eq_some h;rw [eJ] at h2;exact ⟨by omega,hne,h2,(LU hne).1 h1⟩
theorem jB {g:G}(h:g.2≠[]):iI g∈g.2:=by
  unfold iI;cases hg:g.2 with
  | nil=>exact absurd hg h
  | cons f l=>simp
theorem IM {g:G}{k:Nat}{f:As}{m:Int}:F5 (mY g k) f m↔gP (iI g) k=(f (g.1.getD k 0)).1∧gC (iI g) k=(f (g.1.getD k 0)).2∧0≤m:=by
  unfold F5 mY;constructor
  · rintro ⟨w,h1,h2,h3⟩;simp at h1;subst h1;obtain ⟨h4,h5⟩:=h2;simp at h4 h5;exact ⟨h4,h5,h3⟩
  · rintro ⟨h1,h2,h3⟩;exact ⟨_,bH.2 rfl,⟨by simp [h1],by simp [h2]⟩,h3⟩
theorem SL {n:Nat}{g:G}(ok:uB n g){k:Nat}(hc:gX g=some k){f:As}{M:Int}:(∃ m,F5 (mY g k) f m∧F5 (jY g k) f (M-m))↔F5 g f M:=by
  obtain ⟨h1,hne,hk,hs⟩:=jE hc;have hr:∀ M,F5 (jY g k) f M↔∃ w,w∈g.2∧oJ (g.1.eraseIdx k) (zN7 k w) f∧w.2.1≤M:=by
    intro M;unfold jY;rw [P7];unfold F5;constructor
    · rintro ⟨v,hv,a,b⟩;obtain ⟨w,hw,rfl⟩:=bB.1 hv;exact ⟨w,hw,a,b⟩
    · rintro ⟨w,hw,a,b⟩;exact ⟨zN7 k w,bB.2 ⟨w,hw,rfl⟩,a,b⟩
  constructor
  · rintro ⟨m,h2,h3⟩;obtain ⟨a,b,c⟩:=IM.1 h2;obtain ⟨w,hw,d,e⟩:=(hr _).1 h3;have:=ok.ws w hw;exact ⟨w,hw,(AD hk this.pl this.cl).2 ⟨d,by rw [(hs w hw).1];exact a,by rw [(hs w hw).2];exact b⟩,by omega⟩
  · rintro ⟨w,hw,d,e⟩;have:=ok.ws w hw;obtain ⟨a,b,c⟩:=(AD hk this.pl this.cl).1 d;refine ⟨0,IM.2 ⟨by rw [← (hs w hw).1];exact b,by rw [← (hs w hw).2];exact c,fK _⟩,(hr _).2 ⟨w,hw,a,by omega⟩⟩
theorem uH {α:Type}{l:List α}{k:Nat}{x:α}(h:x∈l.eraseIdx k):x∈l:=(qA l k).mem h
theorem EK.erase {n k:Nat}{w:W}(h:EK n k w){i:Nat}(hi:i<k):EK n (k-1) (zN7 i w) where
  pl:=by show (w.1.eraseIdx i).length=_;rw [fJ,h.pl,if_pos hi]
  cl:=by show (w.2.2.eraseIdx i).length=_;rw [fJ,h.cl,if_pos hi]
  pr x hx:=h.pr x (uH hx)
  nd:=h.nd.sublist (qA _ _)
  m0:=h.m0
  m1:=h.m1
  sp r hr:=h.sp r (uH hr)
theorem jQ {α:Type}:∀ (l:List α) (i:Nat) (x:α),i<l.length→(l.getD i x::l.eraseIdx i).Perm l
  | [],i,x,h=>by simp at h
  | y::l,0,x,h=>by simp
  | y::l,i+1,x,h=>by
    simp only [List.getD_cons_succ,List.eraseIdx_cons_succ];exact (List.Perm.swap _ _ _).trans ((jQ l i x (by simpa using h)).cons y)
theorem EK.at {n k:Nat}{w:W}(h:EK n k w){i:Nat}(hi:i<k):0≤gP w i∧gP w i<n∧LH (gC w i):=by
  unfold gP gC;have h1:i<w.1.length:=by rw [h.pl];exact hi
  have h2:i<w.2.2.length:=by rw [h.cl];exact hi
  simp only [List.getD,aA h1,aA h2,iL];exact ⟨(h.pr _ (aI h1)).1,(h.pr _ (aI h1)).2,h.sp _ (aI h2)⟩
theorem uB.one {n:Nat}{g:G}(h:uB n g){k:Nat}(hc:gX g=some k):uB n (mY g k):=by
  obtain ⟨h1,hne,hk,hs⟩:=jE hc;have hf:=h.ws _ (jB hne);have ha:=hf.at hk;refine ⟨by simp [mY],by simp [mY],?_,by simp [mY],?_,?_⟩
  · intro b hb;simp only [mY,bH] at hb;subst hb;simp only [List.getD,aA hk,iL];exact h.rg _ (aI hk)
  · intro w hw;simp only [mY,bH] at hw;subst hw;exact ⟨rfl,rfl,by intro x hx;simp at hx;subst hx;exact ⟨ha.1,ha.2.1⟩,by simp,by simp,by simp,by intro r hr;simp at hr;subst hr;exact ha.2.2⟩
  · intro w v hw hv;simp only [mY,bH] at hw hv;subst hw;subst hv;exact .refl _
theorem uB.rest {n:Nat}{g:G}(h:uB n g){k:Nat}(hc:gX g=some k):uB n (jY g k):=by
  obtain ⟨h1,hne,hk,hs⟩:=jE hc;have hl:(g.1.eraseIdx k).length=g.1.length-1:=by rw [fJ,if_pos hk]
  have hm:∀ w,w∈(jY g k).2→∃ v,v∈g.2∧w=zN7 k v:=by
    intro w hw;obtain ⟨v,hv,rfl⟩:=bB.1 (qX hw);exact ⟨v,hv,rfl⟩
  refine ⟨?_,h.up.sublist (qA _ _),fun b hb=>h.rg b (uH hb),?_,?_,?_⟩
  · intro e;have:(g.1.eraseIdx k).length=0:=by rw [show g.1.eraseIdx k=[] from e];rfl
    omega
  · show (g.1.eraseIdx k).length≤6;have:=h.ln;omega
  · intro w hw;obtain ⟨v,hv,rfl⟩:=hm w hw;show EK n (g.1.eraseIdx k).length _;rw [hl];exact (h.ws v hv).erase hk
  · intro w v hw hv;obtain ⟨w,hw',rfl⟩:=hm w hw;obtain ⟨v,hv',rfl⟩:=hm v hv;clear hw hv;have hw:=hw';have hv:=hv';have h3:=h.same w v hw hv;have e1:=jQ w.1 k 0 (by rw [(h.ws w hw).pl];exact hk)
    have e2:=jQ v.1 k 0 (by rw [(h.ws v hv).pl];exact hk)
    have e3:w.1.getD k 0=v.1.getD k 0:=((hs w hw).1).trans ((hs v hv).1).symm;rw [e3] at e1;exact (List.perm_cons _).1 (e1.trans (h3.trans e2.symm))
theorem EZ {n:Nat}:∀ (m:Nat){g:G},uB n g→∀ x,x∈mL m g→uB n x
  | 0,g,h,x,hx=>by simp [mL] at hx;subst hx;exact h
  | m+1,g,h,x,hx=>by
    unfold mL at hx;split at hx
    · simp at hx;subst hx;exact h
    · rename_i k hc;rcases bT.1 hx with rfl | hx
      · exact h.one hc
      · exact EZ m (h.rest hc) x hx
theorem HV {n:Nat}{f:As}:∀ (m:Nat){g:G},uB n g→∀ {M:Int},Sem (mL m g) f M↔F5 g f M
  | 0,g,h,M=>OJ
  | m+1,g,h,M=>by
    unfold mL;split
    · exact OJ
    · rename_i k hc;simp only [Sem,HV m (h.rest hc)];exact SL h hc
theorem RT {n:Nat}{f:As}{l:List G}(h:∀ g,g∈l→uB n g){M:Int}:Sem (sI l) f M↔Sem l f M:=by
  unfold sI;rw [oP (dZ _ _)];exact HW fun g hg M=>HV _ (h g hg)
theorem CZ {n:Nat}:∀ (m:Nat){g:G},uB n g→g.1.length≤m→∀ x,x∈mL m g→gX x=none
  | 0,g,h,hl,x,hx=>by exact absurd (fP.1 (Nat.le_zero.1 hl)) h.ne
  | m+1,g,h,hl,x,hx=>by
    unfold mL at hx;split at hx
    · rename_i hc;simp at hx;subst hx;exact hc
    · rename_i k hc;obtain ⟨h1,hne,hk,hs⟩:=jE hc;rcases bT.1 hx with rfl | hx
      · simp [gX,mY]
      · refine CZ m (h.rest hc) ?_ x hx;show (g.1.eraseIdx k).length≤m;rw [fJ,if_pos hk];omega
theorem yT {n:Nat}:∀ (m:Nat){g:G},uB n g→((mL m g).flatMap (·.1)).Perm g.1
  | 0,g,h=>by simp [mL]
  | m+1,g,h=>by
    unfold mL;split
    · simp
    · rename_i k hc;obtain ⟨h1,hne,hk,hs⟩:=jE hc;rw [bJ];exact (List.Perm.append_left _ (yT m (h.rest hc))).trans (jQ g.1 k 0 hk)
theorem zH4 {m:Nat}:∀ {g:G},g.2≠[]→∀ x,x∈mL m g→x.2≠[]:=by
  induction m with
  | zero=>intro g h x hx;simp [mL] at hx;subst hx;exact h
  | succ m ih=>
    intro g h x hx;unfold mL at hx;split at hx
    · simp at hx;subst hx;exact h
    · rename_i k hc;rcases bT.1 hx with rfl | hx
      · simp [mY]
      · refine ih ?_ x hx;show fN _≠[];rw [Ne,P5,kM];exact h
theorem IG {g:G}(h:g.2=[]):∀ m,mL m g=[g]
  | 0=>rfl
  | m+1=>by unfold mL;rw [show gX g=none by unfold gX;rw [if_pos (.inr h)]]
theorem IH {m:Nat}:∀ {g:G}{K:Nat},1≤K→g.2.length≤K→∀ x,x∈mL m g→x.2.length≤K:=by
  induction m with
  | zero=>intro g K _ h x hx;simp [mL] at hx;subst hx;exact h
  | succ m ih=>
    intro g K h1 h x hx;unfold mL at hx;split at hx
    · simp at hx;subst hx;exact h
    · rename_i k hc;rcases bT.1 hx with rfl | hx
      · simpa [mY] using h1
      · refine ih h1 ?_ x hx;exact bY (tR _) (by rw [aX];exact h)
def upd (f:As) (a:Int) (x:Int × SP):As:=fun b=>if b=a then x else f b
def OE (f:As) (a b:Int):As:=fun x=>if x=a then f b else if x=b then f a else f x
def J6 (c:Cx) (s:Ev) (x:Int × SP):(Int × SP) × Int × Bool:=
  if s.k=0 then (if x.1∈s.ids then (x,0,decide ((s.ids.length:Int)-1≤c.st)) else (x,1,decide ((s.ids.length:Int)≤c.st)))
  else if s.k=1 then
    let b:=c.bs.getD x.1.toNat (0,0,0)
    let q:=uC b.2.2 (mT c.ks c.ls b.1) s.n c.er x.2
    ((x.1,q.1),0,q.2)
  else if s.k=2 then let q:=yS x.2 s.n c.sl;((x.1,q.1),0,q.2)
  else if s.k=3 then ((x.1,(s.n,s.n+1)),0,vH x.2.1 x.2.2 s.n)
  else if s.k=5 then (x,0,decide (x.1=s.n))
  else (x,0,true)
theorem HT {α:Type}{l:List α}{i:Nat}(x:α) (h:i<l.length):l.set i (l.getD i x)=l:=by
  simp [List.getD,h]
theorem B7 {c:Cx}{w:W}{i:Nat}{s:Ev}(h:i<w.2.2.length) :
    jK c w i s=((w.1,w.2.1+(J6 c s (gP w i,gC w i)).2.1,w.2.2.set i (J6 c s (gP w i,gC w i)).1.2),(J6 c s (gP w i,gC w i)).2.2):=by
  have e:w.2.2.set i (gC w i)=w.2.2:=HT _ h;unfold jK J6;split
  · split <;> simp [e]
  · split
    · simp [sC]
    · split
      · simp [sC]
      · split
        · simp [sC]
        · split <;> simp [e]
theorem GG {c:Cx}{s:Ev}{x:Int × SP}:(J6 c s x).1.1=x.1:=by
  unfold J6
  repeat' split
  all_goals rfl
def BV (c:Cx) (s:Ev) (f f':As) (d:Int):Prop:=
  ((J6 c s (f s.a)).2.2=true∧f'=upd f s.a (J6 c s (f s.a)).1∧d=(J6 c s (f s.a)).2.1)∨(s.k=4∧f'=OE f s.a s.b∧d=0)
theorem sU {bs:List Int}{w:W}{f:As}(h1:w.1.length=bs.length) (h2:w.2.2.length=bs.length) :
    oJ bs w f↔∀ j (hj:j<bs.length),gP w j=(f bs[j]).1∧gC w j=(f bs[j]).2:=by
  constructor
  · intro h j hj;exact ⟨N6 h hj,Z7 h hj⟩
  · intro h;constructor
    · refine kX (by simp [h1]) fun j hj hj'=>?_
      have:=(h j (by omega)).1
      unfold gP at this;simp only [List.getD,aA hj,iL] at this;simp [this]
    · refine kX (by simp [h2]) fun j hj hj'=>?_
      have:=(h j (by omega)).2
      unfold gC at this;simp only [List.getD,aA hj,iL] at this;simp [this]
theorem wV {bs:List Int}{a:Int}(ha:a∈bs):∃ h:bs.idxOf a<bs.length,bs[bs.idxOf a]=a:=by
  have h:=gR ha;exact ⟨h,List.getElem_idxOf h⟩
theorem Z1 {bs:List Int}(hn:bs.Nodup){i j:Nat}(hi:i<bs.length) (hj:j<bs.length) (h:bs[i]=bs[j]):i=j:=(BK hn).1 h
theorem fL {α:Type}{l:List α}{i j:Nat}{x d:α}(hj:i<l.length):(l.set i x).getD j d=if j=i then x else l.getD j d:=by
  by_cases e:j=i
  · subst e;simp [List.getD,hj]
  · rw [if_neg e];simp [List.getD,iV (Ne.symm e)]
theorem XE {c:Cx}{n:Nat}{g:G}(ok:uB n g){s:Ev}(ha:s.a∈g.1) (hb:s.k=4→s.b∈g.1∧s.a≠s.b){f':As}{M:Int} :
    F5 (g.1,fN (jU c s g)) f' M↔∃ f d,BV c s f f' d∧F5 g f (M-d):=by
  rw [P7];obtain ⟨hi,hia⟩:=wV ha;have hnd:=ok.nd;constructor
  · rintro ⟨v,hv,hf,hm⟩;unfold jU at hv;obtain ⟨w,hw,hv⟩:=fZ.1 hv;have wo:=ok.ws w hw;have h1:=wo.pl;have h2:=wo.cl;rcases bG.1 hv with hv | hv
    · split at hv
      · rename_i hok;simp only [bH] at hv;subst hv;rw [B7 (by omega)] at hok hf hm
        simp only at hok hf hm;generalize hi':g.1.idxOf s.a=i at *;have hf':=(sU (w:=(w.1,w.2.1+(J6 c s (gP w i,gC w i)).2.1,w.2.2.set i (J6 c s (gP w i,gC w i)).1.2)) h1 (by simp [h2])).1 hf
        have ea:upd f' s.a (gP w i,gC w i) s.a=(gP w i,gC w i):=by unfold upd;rw [if_pos rfl]
        refine ⟨upd f' s.a (gP w i,gC w i),_,.inl ⟨by rw [ea];exact hok,?_,rfl⟩,w,hw,(sU h1 h2).2 fun j hj=>?_,by rw [ea];show w.2.1≤_;omega⟩
        · rw [ea];funext b;unfold upd;by_cases e:b=s.a
          · rw [if_pos e,e];obtain ⟨q1,q2⟩:=hf' i hi;rw [hia] at q1 q2;refine Prod.ext ?_ ?_
            · rw [GG,← q1];rfl
            · rw [← q2];unfold gC;rw [fL (by omega),if_pos rfl]
          · rw [if_neg e,if_neg e]
        · obtain ⟨q1,q2⟩:=hf' j hj;unfold upd;by_cases e:g.1[j]=s.a
          · rw [if_pos e];have:j=i:=Z1 hnd hj hi (e.trans hia.symm);subst this;exact ⟨rfl,rfl⟩
          · rw [if_neg e];refine ⟨by rw [← q1];rfl,?_⟩
            rw [← q2];unfold gC;rw [fL (by omega),if_neg]
            rintro rfl;exact e hia
      · cases hv
    · split at hv
      · rename_i hk;simp only [bH] at hv;subst hv;obtain ⟨hbm,hab⟩:=hb hk;obtain ⟨hj,hjb⟩:=wV hbm;generalize hi':g.1.idxOf s.a=i at *;generalize hj':g.1.idxOf s.b=k at *;have hik:i≠k:=by rintro rfl;exact hab (hia.symm.trans hjb)
        have hf':=(sU (w:=oV w i k) (by simp [oV,h1]) (by simp [oV,h2])).1 hf
        refine ⟨OE f' s.a s.b,0,.inr ⟨hk,?_,rfl⟩,w,hw,(sU h1 h2).2 fun j hj0=>?_,by have:(oV w i k).2.1=w.2.1:=rfl;omega⟩
        · funext x;unfold OE;by_cases e:x=s.a
          · subst e;rw [if_pos rfl,if_neg (Ne.symm hab),if_pos rfl]
          · by_cases e':x=s.b
            · subst e';rw [if_neg e,if_pos rfl,if_pos rfl]
            · rw [if_neg e,if_neg e',if_neg e,if_neg e']
        · unfold OE;by_cases e:g.1[j]=s.a
          · rw [if_pos e];have:j=i:=Z1 hnd hj0 hi (e.trans hia.symm);subst this;obtain ⟨q1,q2⟩:=hf' k hj;rw [hjb] at q1 q2;rw [← q1,← q2];constructor
            · unfold gP oV;simp only;rw [fL (by simp;omega),if_pos rfl];rfl
            · unfold gC oV;simp only;rw [fL (by simp;omega),if_pos rfl];rfl
          · rw [if_neg e];by_cases e':g.1[j]=s.b
            · rw [if_pos e'];have:j=k:=Z1 hnd hj0 hj (e'.trans hjb.symm);subst this;obtain ⟨q1,q2⟩:=hf' i hi;rw [hia] at q1 q2;rw [← q1,← q2];constructor
              · unfold gP oV;simp only;rw [fL (by simp;omega),if_neg hik,fL (by omega),if_pos rfl];rfl
              · unfold gC oV;simp only;rw [fL (by simp;omega),if_neg hik,fL (by omega),if_pos rfl];rfl
            · rw [if_neg e'];have n1:j≠i:=by rintro rfl;exact e hia
              have n2:j≠k:=by rintro rfl;exact e' hjb
              obtain ⟨q1,q2⟩:=hf' j hj0;rw [← q1,← q2];constructor
              · unfold gP oV;simp only;rw [fL (by simp;omega),if_neg n2,fL (by omega),if_neg n1]
              · unfold gC oV;simp only;rw [fL (by simp;omega),if_neg n2,fL (by omega),if_neg n1]
      · cases hv
  · rintro ⟨f,d,hst,w,hw,hf,hm⟩;have wo:=ok.ws w hw;have h1:=wo.pl;have h2:=wo.cl;have hf':=(sU h1 h2).1 hf;have hxa:(gP w (g.1.idxOf s.a),gC w (g.1.idxOf s.a))=f s.a:=by
      obtain ⟨q1,q2⟩:=hf' _ hi;rw [hia] at q1 q2;exact Prod.ext q1 q2
    rcases hst with ⟨hok,rfl,rfl⟩ | ⟨hk,rfl,rfl⟩
    · refine ⟨(jK c w (g.1.idxOf s.a) s).1,fZ.2 ⟨w,hw,bG.2 (.inl ?_)⟩,?_,?_⟩
      · rw [if_pos (by rw [B7 (by omega),hxa];exact hok)];exact bH.2 rfl
      · rw [B7 (by omega),hxa]
        refine (sU (bs:=g.1) (w:=(w.1,w.2.1+(J6 c s (f s.a)).2.1,w.2.2.set (g.1.idxOf s.a) (J6 c s (f s.a)).1.2)) h1 (by simp [h2])).2 fun j hj=>?_
        obtain ⟨q1,q2⟩:=hf' j hj;unfold upd;by_cases e:g.1[j]=s.a
        · rw [if_pos e];have:j=g.1.idxOf s.a:=Z1 hnd hj hi (e.trans hia.symm);refine ⟨?_,?_⟩
          · rw [GG];show gP w j=_;rw [q1,e]
          · unfold gC;simp only;rw [fL (by omega),if_pos this]
        · rw [if_neg e];refine ⟨q1,?_⟩;unfold gC;simp only;rw [fL (by omega),if_neg (by rintro rfl;exact e hia)]
          exact q2
      · rw [B7 (by omega),hxa];show w.2.1+_≤_;omega
    · obtain ⟨hbm,hab⟩:=hb hk;obtain ⟨hj,hjb⟩:=wV hbm;have hxb:gP w (g.1.idxOf s.b)=(f s.b).1∧gC w (g.1.idxOf s.b)=(f s.b).2:=by
        obtain ⟨q1,q2⟩:=hf' _ hj;rw [hjb] at q1 q2;exact ⟨q1,q2⟩
      have hxa':gP w (g.1.idxOf s.a)=(f s.a).1∧gC w (g.1.idxOf s.a)=(f s.a).2:=by rw [← hxa];exact ⟨rfl,rfl⟩
      refine ⟨oV w (g.1.idxOf s.a) (g.1.idxOf s.b),fZ.2 ⟨w,hw,bG.2 (.inr (by rw [if_pos hk];exact bH.2 rfl))⟩,?_,by show w.2.1≤M;omega⟩
      generalize hi':g.1.idxOf s.a=i at *;generalize hj':g.1.idxOf s.b=k at *;have hik:i≠k:=by rintro rfl;exact hab (hia.symm.trans hjb)
      refine (sU (by simp [oV,h1]) (by simp [oV,h2])).2 fun j hj0=>?_
      unfold OE;by_cases e:g.1[j]=s.a
      · rw [if_pos e];have:j=i:=Z1 hnd hj0 hi (e.trans hia.symm);subst this;rw [← hxb.1,← hxb.2];constructor
        · unfold gP oV;simp only;rw [fL (by simp;omega),if_neg hik,fL (by omega),if_pos rfl];rfl
        · unfold gC oV;simp only;rw [fL (by simp;omega),if_neg hik,fL (by omega),if_pos rfl];rfl
      · rw [if_neg e];by_cases e':g.1[j]=s.b
        · rw [if_pos e'];have:j=k:=Z1 hnd hj0 hj (e'.trans hjb.symm);subst this;rw [← hxa'.1,← hxa'.2];constructor
          · unfold gP oV;simp only;rw [fL (by simp;omega),if_pos rfl];rfl
          · unfold gC oV;simp only;rw [fL (by simp;omega),if_pos rfl];rfl
        · rw [if_neg e'];have n1:j≠i:=by rintro rfl;exact e hia
          have n2:j≠k:=by rintro rfl;exact e' hjb
          obtain ⟨q1,q2⟩:=hf' j hj0;rw [← q1,← q2];constructor
          · unfold gP oV;simp only;rw [fL (by simp;omega),if_neg n2,fL (by omega),if_neg n1]
          · unfold gC oV;simp only;rw [fL (by simp;omega),if_neg n2,fL (by omega),if_neg n1]
theorem L9 {g:G}{f f':As}{M:Int}(h:∀ b,b∈g.1→f b=f' b):F5 g f M↔F5 g f' M:=by
  unfold F5 oJ;rw [jH (g:=fun b=>(f' b).1) (fun b hb=>by rw [h b hb]),jH (g:=fun b=>(f' b).2) (fun b hb=>by rw [h b hb])]
theorem rU {f f':As}:∀ {gs:List G}{M:Int},(∀ g,g∈gs→∀ b,b∈g.1→f b=f' b)→(Sem gs f M↔Sem gs f' M)
  | [],M,_=>Iff.rfl
  | g::gs,M,h=>by
    simp only [Sem,L9 (h g aR),rU (fun x hx=>h x (aL _ hx))]
end Go.Ld
namespace Go.Proofs.YtojgimibalokkaaGreat
open Go Go.Ab
attribute [local irreducible] VC AW cF aP
set_option maxHeartbeats 4000000
structure U7 (ks:List KD) (ls:List LT) (ps:List Int) (bs:List BX):Prop where
  len:ps.length=bs.length
  p:∀ i:Nat,i<ps.length→(i:Int)∈ps
  k:∀ (i:Nat) (h:i<ks.length),0≤ks[i].2∧ks[i].2≤1048576
  l:∀ (i:Nat) (h:i<ls.length),0≤ls[i].1∧ls[i].1<ks.length
  b:∀ (i:Nat) (h:i<bs.length),-1≤bs[i].1∧bs[i].1<ls.length∧0≤bs[i].2.1∧bs[i].2.1≤20000∧(bs[i].1 = -1→bs[i].2.1=0)∧0≤bs[i].2.2∧bs[i].2.2≤1073741824
abbrev wH (ks:List KD) (ls:List LT) (ps:List Int) (bs:List BX):AV:=.agg [.rowE (fF ks) 2,.rowE (iF ls) 3,.rowE (ints ps) 1,.rowE (dY bs) 3]
def yL7 (ks:List KD) (ls:List LT) (ps:List Int) (bs:List BX):Prop:=1≤ps.length∧ps.length≤8∧bs.length≤8∧ks.length≤10∧ls.length≤10
theorem yG {n f t:Int}(h:f≤n∧n≤t):aP Tryz.prog 51 [.i n,.i f,.i t] [] (.b true) []:=by
  have:=kJ n f t
  rwa [show eF n f t=true by simp [eF,h]] at this
theorem U5 {l:List Int}{n:Int}{i:Nat}(h:i<l.length) (hn:¬ yW l n i):S6 l n=false:=by
  unfold S6;simp only [decide_eq_false_iff_not];exact fun hh=>hn (hh i h)
theorem J8 {l:List Int}{n:Int}(h:∀ i,i<l.length→yW l n i):S6 l n=true:=by
  unfold S6;simp only [decide_eq_true_eq];exact h
theorem PR {l:List Int}{k:Nat}(h:k<l.length):l.getD k 0=l[k]:=by simp [List.getD,h]
theorem B8 (l:List Int) (n:Int) (hl:l.length≤9223372036854775807) (hn:0≤n∧n≤1000):aP Tryz.prog 52 [.rowE (ints l) 1,.i n] [] (.b (S6 l n)) []:=by
  have hlen:(ints l).length=l.length:=by simp
  refine bL T Tryz.func52 rfl rfl rfl rfl ?_
  (repeat' (first|refine wS ?_|refine wB ?_|(refine rg 0 (aV ?_))|(refine rg 1 (mW rfl (qW T rfl (mV ?_))))|refine nZ ?_));refine cX (X:={k:Nat // k≤l.length∧∀ i,i<k→yW l n i}) (fun k=>[(0,.rowE (ints l) 1),(1,.i n),(7,.rowE (ints l) 1),(8,.i (ints l).length),(9,.i k.1)]) (fun _=>[]) (fun k=>l.length-k.1) ⟨0,by omega,fun i hi=>by omega⟩ (fU []) ?_
  rintro ⟨k,hk,hq⟩;dsimp only;by_cases hlt:k<l.length
  · have hg:=PR hlt;cases hw:eF l[k] 0 (n-1)
    · have c:=hw▸kJ l[k] 0 (n-1);have hno:¬ yW l n k:=fun h=>by
        unfold yW at h;rw [hg] at h;rw [show eF l[k] 0 (n-1)=true by simp [eF];omega] at hw
        cases hw
      (repeat' (first|refine wS ?_|refine wB ?_|refine wK ?_|refine wR ?_|refine wT ?_|(refine wC rfl ?_ ?_<;>(intro hb;(try simp only [nm] at hb);try (exfalso;omega)))|(refine rg 2 (vV (aK rfl rfl) ?_))|(refine rg 3 (mW rfl (vV (ix T rfl (by omega) (ints_len l) (iQ (k:=k) hlt)) (lW T rfl (lO ?_)))))|(refine rg 4 (dR rfl (vV (cH rfl rfl (by omega) (by omega)) (vV (kC (c)) (vV (cT rfl) (mV ?_)))));(iterate 3 refine gF ?_);(iterate 7 refine gU ?_);refine gF (pV ?_))|(refine rg 5 (aV ?_))|refine nZ ?_));exact cM (.inl rfl) rfl (lX (U5 hlt hno).symm)
    · have c:=hw▸kJ l[k] 0 (n-1);simp only [eF,aJ,decide_eq_true_eq] at hw;by_cases hk0:0<k
      · have hlt':k-1<l.length:=by omega
        have hg':=PR hlt';have hc':(ints l)[((k:Int)-1).toNat]? = some [AV.i l[k-1]]:=by rw [show ((k:Int)-1).toNat=k-1 by omega];exact iQ hlt'
        (repeat' (first|refine wS ?_|refine wB ?_|refine wK ?_|refine wR ?_|(refine wC rfl ?_ ?_<;>(intro hb;(try simp only [nm] at hb);try (exfalso;omega)))|(refine rg 2 (vV (aK rfl rfl) ?_))|(refine rg 3 (mW rfl (vV (ix T rfl (by omega) (ints_len l) (iQ (k:=k) hlt)) (lW T rfl (lO ?_)))))|(refine rg 4 (dR rfl (vV (cH rfl rfl (by omega) (by omega)) (vV (kC (c)) (vV (cT rfl) (mW rfl (yN rfl (yV (dX rfl rfl) (yM ?_))))))));refine aY rfl rfl ?_ ?_<;>(intro hb;rw [hb];(try simp only [nm] at hb);try (exfalso;omega));(all_goals (refine yN rfl (yN rfl (yN rfl (yV (cH rfl rfl (by omega) (by omega)) (yV (ix T rfl (by omega) (ints_len l) hc') (yO T rfl (yV (jP rfl rfl) (gT (pW rfl (pV ?_))))))))))))|(refine rg 5 (aV ?_))|(refine rg 6 (vV (bP rfl rfl (by omega) (by omega)) (mV ?_)))|refine nZ ?_));all_goals first
          | (exfalso;omega)
          | (refine cM (.inl rfl) rfl (lX (U5 hlt (fun h=>?_)).symm);unfold yW at h;rw [hg,hg'] at h;omega)
          | (refine ⟨⟨k+1,by omega,fun i hi=>?_⟩,by dsimp only; omega,fU []⟩
             by_cases e:i=k
             · subst e;unfold yW;rw [hg,hg'];omega
             · exact hq i (by omega))
      · obtain rfl:k=0:=by omega
        (repeat' (first|refine wS ?_|refine wB ?_|refine wK ?_|refine wU ?_|(refine wC rfl ?_ ?_<;>(intro hb;(try simp only [nm] at hb);try (exfalso;omega)))|(refine rg 2 (vV (aK rfl rfl) ?_))|(refine rg 3 (mW rfl (vV (ix T rfl (by omega) (ints_len l) (iQ (k:=0) hlt)) (lW T rfl (lO ?_)))))|(refine rg 4 (dR rfl (vV (cH rfl rfl (by omega) (by omega)) (vV (kC (c)) (vV (cT rfl) (mW rfl (yN rfl (yV (dX rfl rfl) (yM ?_))))))));(iterate 7 refine gF ?_);refine gT (pW rfl (pV ?_)))|(refine rg 6 (vV (bP rfl rfl (by omega) (by omega)) (mV ?_)))|refine nZ ?_));all_goals first
          | (exfalso;omega)
          | (refine ⟨⟨1,by omega,fun i hi=>?_⟩,by dsimp only; omega,fU []⟩
             obtain rfl:i=0:=by omega
             unfold yW;rw [hg];omega)
  · (repeat' (first|refine wS ?_|refine wR ?_|refine wE ?_|(refine wC rfl (fun hb=>?_) (fun hb=>?_) <;> (((try simp only [nm] at hb);try (exfalso;omega))))|(refine rg 2 (vV (aK rfl rfl) ?_))|(refine rg 7 (aV ?_))|(refine nZ ?_)));exact cM (.inl rfl) rfl (lX (J8 fun i hi=>hq i (by omega)).symm)
theorem OO (n k a b m:Int) (ids:List Int) (hl:ids.length≤9223372036854775807) (hn:0≤n∧n≤1000) :
    ∃ v,aP Tryz.prog 23 [.i n,yH k a b m ids] [] (.b v) []∧(v=true→(0≤a∧a≤n-1)∧(k=4→a+1≤b∧b≤n-1)∧0≤m∧m≤1099511627776):=by
  have hil:(ints ids).length=ids.length:=by simp
  have ca:=kJ a 0 (n-1);have cs:=B8 ids n hl hn;cases hA:eF a 0 (n-1)
  · rw [hA] at ca;refine ⟨false,?_,fun h=>by cases h⟩
    refine bL T Tryz.func23 rfl rfl rfl rfl ?_
    (repeat' (first|refine wS ?_|refine wR ?_|refine wT ?_|(refine rg 0 (bS (bZ rfl rfl) rfl (aV ?_)))|(refine rg 1 (fR T rfl (mW rfl (vV (cH rfl rfl (by omega) (by omega)) (vV (kC (ca)) (vV (cT rfl) (mV ?_))))));(iterate 4 refine gF ?_);(iterate 4 refine gU ?_);refine gF (pW rfl (mV ?_));(iterate 4 refine gF ?_);(iterate 3 refine gU ?_);refine gF (pV ?_))|(refine rg 2 (aV ?_))|refine nZ ?_));exact rQ
  · rw [hA] at ca;simp only [eF,aJ,decide_eq_true_eq] at hA;by_cases h1:k≠0∧0<ids.length∨k≠4∧b≠0
    · refine ⟨false,?_,fun h=>by cases h⟩
      refine bL T Tryz.func23 rfl rfl rfl rfl ?_
      (repeat' (first|refine wS ?_|refine wR ?_|refine wT ?_|(refine wC rfl ?_ ?_<;>(intro hb;(try simp only [nm] at hb);try (exfalso;omega)))|(refine rg 0 (bS (bZ rfl rfl) rfl (aV ?_)))|(refine rg 1 (fR T rfl (mW rfl (vV (cH rfl rfl (by omega) (by omega)) (vV (kC (ca)) (vV (cT rfl) (mW rfl (yP T rfl (yO T rfl (yV (dI rfl rfl) ?_)))))))));refine yM ?_;refine aY rfl rfl ?_ ?_<;>(intro hb;rw [hb];(try simp only [nm] at hb);try (exfalso;omega));(all_goals first|(refine gT (fW T rfl (gT (lW T rfl (gT (qW T rfl (gT (vV (dX rfl rfl) ?_))))))))|(iterate 4 refine gF ?_));(all_goals (refine gT (pW rfl (pW rfl (mV ?_)))));(all_goals first|(refine gK ?_)|(refine aY rfl rfl ?_ ?_<;>(intro hb;rw [hb];(try simp only [nm] at hb);try (exfalso;omega))));(all_goals first|(refine gT (fW T rfl (gT (lW T rfl (gT (vV (dI rfl rfl) (gT (mV ?_))))))))|(iterate 4 refine gF ?_));(all_goals first|(refine gK ?_)|(refine aY rfl rfl ?_ ?_<;>(intro hb;rw [hb];(try simp only [nm] at hb);try (exfalso;omega))));(all_goals first|(refine gT (fW T rfl (gT (lW T rfl (gT (vV (dI rfl rfl) ?_))))))|(iterate 3 refine gU ?_));(all_goals first|(refine gT (pV ?_))|(refine gF ?_));(all_goals (refine pV ?_)))|(refine rg 2 (aV ?_))|refine nZ ?_));all_goals exact rQ
    · by_cases k0:k=0
      · refine ⟨decide (m=0)&&S6 ids n,?_,fun h=>by simp at h;omega⟩
        refine bL T Tryz.func23 rfl rfl rfl rfl ?_
        (repeat' (first|refine wS ?_|refine wB ?_|refine wK ?_|refine wR ?_|(refine wC rfl ?_ ?_<;>(intro hb;(try simp only [nm] at hb);try (exfalso;omega)))|(refine rg 0 (bS (bZ rfl rfl) rfl (aV ?_)))|(refine rg 1 (fR T rfl (mW rfl (vV (cH rfl rfl (by omega) (by omega)) (vV (kC (ca)) (vV (cT rfl) (mW rfl (yP T rfl (yO T rfl (yV (dI rfl rfl) ?_)))))))));refine yM ?_;refine aY rfl rfl ?_ ?_<;>(intro hb;rw [hb];(try simp only [nm] at hb);try (exfalso;omega));(all_goals ((iterate 4 refine gF ?_);refine gT (pW rfl (pW rfl (mW rfl (yP T rfl (yO T rfl (yV (dI rfl rfl) (yM ?_)))))));refine aY rfl rfl ?_ ?_<;>(intro hb;rw [hb];(try simp only [nm] at hb);try (exfalso;omega))));(all_goals (refine yP T rfl (yO T rfl (yV (dI rfl rfl) (gT (pW rfl (pV ?_))))))))|(refine rg 3 (AC T ?_))|(refine rg 4 (vV (bW rfl rfl) (aV ?_)))|(refine rg 5 (fR T rfl (vV (bW rfl rfl) (mV ?_)));refine aY rfl rfl ?_ ?_<;>(intro hb;rw [hb];(try simp only [nm] at hb);try (exfalso;omega));(all_goals first|(refine gT (fW T rfl (gT (lW T rfl (gT (mW rfl (gT (vV (kC (cs)) ?_))))))))|(iterate 4 refine gF ?_));(all_goals (refine pW rfl (aV ?_))))|refine nZ ?_));all_goals first | (exfalso;omega) | (refine cM (.inl rfl) rfl (lX ?_);simp [*])
      · by_cases k1:k=1∨k=2∨k=3
        · refine ⟨eF m 0 1099511627776,?_,fun h=>by simp [eF] at h;omega⟩
          refine bL T Tryz.func23 rfl rfl rfl rfl ?_
          (repeat' (first|refine wS ?_|refine wB ?_|refine wK ?_|refine wR ?_|(refine wC rfl ?_ ?_<;>(intro hb;(try simp only [nm] at hb);try (exfalso;omega)))|(refine rg 0 (bS (bZ rfl rfl) rfl (aV ?_)))|(refine rg 1 (fR T rfl (mW rfl (vV (cH rfl rfl (by omega) (by omega)) (vV (kC (ca)) (vV (cT rfl) (mW rfl (yP T rfl (yO T rfl (yV (dI rfl rfl) ?_)))))))));refine yM ?_;refine aY rfl rfl ?_ ?_<;>(intro hb;rw [hb];(try simp only [nm] at hb);try (exfalso;omega));(all_goals (refine yP T rfl (yO T rfl (gT (qW T rfl (yV (dX rfl rfl) (gT (pW rfl (pW rfl (mV ?_))))))));refine aY rfl rfl ?_ ?_<;>(intro hb;rw [hb];(try simp only [nm] at hb);try (exfalso;omega))));(all_goals (refine yP T rfl (yO T rfl (yV (dI rfl rfl) (yM ?_)));refine aY rfl rfl ?_ ?_<;>(intro hb;rw [hb];(try simp only [nm] at hb);try (exfalso;omega))));(all_goals (refine yP T rfl (yO T rfl (yV (dI rfl rfl) (gT (pW rfl (pV ?_))))))))|(refine rg 3 (AC T ?_))|(refine rg 4 (vV (bW rfl rfl) (aV ?_)))|(refine rg 6 (vV (bW rfl rfl) (aV ?_)))|(refine rg 7 (vV (bW rfl rfl) (aV ?_)))|(refine rg 8 (vV (bW rfl rfl) (aV ?_)))|(refine rg 9 (fR T rfl (vV (by exact eL rfl rfl (kJ _ _ _) rfl rfl rfl) ?_));refine aV ?_)|refine nZ ?_));all_goals first | (exfalso;omega) | exact rQ
        · by_cases k4:k=4
          · refine ⟨decide (m=0)&&eF b (a+1) (n-1),?_,fun h=>by simp [eF] at h;omega⟩
            refine bL T Tryz.func23 rfl rfl rfl rfl ?_
            (repeat' (first|refine wS ?_|refine wB ?_|refine wK ?_|refine wR ?_|refine wU ?_|(refine wC rfl ?_ ?_<;>(intro hb;(try simp only [nm] at hb);try (exfalso;omega)))|(refine rg 0 (bS (bZ rfl rfl) rfl (aV ?_)))|(refine rg 1 (fR T rfl (mW rfl (vV (cH rfl rfl (by omega) (by omega)) (vV (kC (ca)) (vV (cT rfl) (mW rfl (yP T rfl (yO T rfl (yV (dI rfl rfl) ?_)))))))));refine yM ?_;refine aY rfl rfl ?_ ?_<;>(intro hb;rw [hb];(try simp only [nm] at hb);try (exfalso;omega));(all_goals (refine yP T rfl (yO T rfl (gT (qW T rfl (yV (dX rfl rfl) (gT (pW rfl (pW rfl (mV ?_))))))));refine aY rfl rfl ?_ ?_<;>(intro hb;rw [hb];(try simp only [nm] at hb);try (exfalso;omega))));(all_goals (refine yP T rfl (yO T rfl (yV (dI rfl rfl) (yM ?_)));refine aY rfl rfl ?_ ?_<;>(intro hb;rw [hb];(try simp only [nm] at hb);try (exfalso;omega))));(all_goals ((iterate 3 refine gF ?_);refine gT (pW rfl (pV ?_)))))|(refine rg 3 (AC T ?_))|(refine rg 4 (vV (bW rfl rfl) (aV ?_)))|(refine rg 6 (vV (bW rfl rfl) (aV ?_)))|(refine rg 7 (vV (bW rfl rfl) (aV ?_)))|(refine rg 8 (vV (bW rfl rfl) (aV ?_)))|(refine rg 10 (vV (bW rfl rfl) (aV ?_)))|(refine rg 11 (fR T rfl (vV (bW rfl rfl) (mV ?_)));refine aY rfl rfl ?_ ?_<;>(intro hb;rw [hb];(try simp only [nm] at hb);try (exfalso;omega));(all_goals first|(refine gT (fW T rfl (gT (lW T rfl (gT (fW T rfl (gT (lW T rfl (gT (vV (bP rfl rfl (by omega) (by omega)) ?_)))))))));refine gT (mW rfl (gT (vV (cH rfl rfl (by omega) (by omega)) (gT (vV (by exact eL rfl rfl (kJ _ _ _) rfl rfl rfl) ?_))))))|(iterate 8 refine gF ?_));(all_goals (refine pW rfl (aV ?_))))|refine nZ ?_));all_goals first | (exfalso;omega) | (refine cM (.inl rfl) rfl (lX ?_);simp [*])
          · by_cases k5:k=5
            · refine ⟨eF m 0 (n-1),?_,fun h=>by simp [eF] at h;omega⟩
              refine bL T Tryz.func23 rfl rfl rfl rfl ?_
              (repeat' (first|refine wS ?_|refine wB ?_|refine wK ?_|refine wR ?_|(refine wC rfl ?_ ?_<;>(intro hb;(try simp only [nm] at hb);try (exfalso;omega)))|(refine rg 0 (bS (bZ rfl rfl) rfl (aV ?_)))|(refine rg 1 (fR T rfl (mW rfl (vV (cH rfl rfl (by omega) (by omega)) (vV (kC (ca)) (vV (cT rfl) (mW rfl (yP T rfl (yO T rfl (yV (dI rfl rfl) ?_)))))))));refine yM ?_;refine aY rfl rfl ?_ ?_<;>(intro hb;rw [hb];(try simp only [nm] at hb);try (exfalso;omega));(all_goals (refine yP T rfl (yO T rfl (gT (qW T rfl (yV (dX rfl rfl) (gT (pW rfl (pW rfl (mV ?_))))))));refine aY rfl rfl ?_ ?_<;>(intro hb;rw [hb];(try simp only [nm] at hb);try (exfalso;omega))));(all_goals (refine yP T rfl (yO T rfl (yV (dI rfl rfl) (yM ?_)));refine aY rfl rfl ?_ ?_<;>(intro hb;rw [hb];(try simp only [nm] at hb);try (exfalso;omega))));(all_goals (refine yP T rfl (yO T rfl (yV (dI rfl rfl) (gT (pW rfl (pV ?_))))))))|(refine rg 3 (AC T ?_))|(refine rg 4 (vV (bW rfl rfl) (aV ?_)))|(refine rg 6 (vV (bW rfl rfl) (aV ?_)))|(refine rg 7 (vV (bW rfl rfl) (aV ?_)))|(refine rg 8 (vV (bW rfl rfl) (aV ?_)))|(refine rg 10 (vV (bW rfl rfl) (aV ?_)))|(refine rg 12 (vV (bW rfl rfl) (aV ?_)))|(refine rg 13 (fR T rfl (mW rfl (vV (cH rfl rfl (by omega) (by omega)) (vV (by exact eL rfl rfl (kJ _ _ _) rfl rfl rfl) ?_))));refine aV ?_)|refine nZ ?_));all_goals first | (exfalso;omega) | exact rQ
            · refine ⟨false,?_,fun h=>by cases h⟩
              refine bL T Tryz.func23 rfl rfl rfl rfl ?_
              (repeat' (first|refine wS ?_|refine wB ?_|refine wK ?_|refine wR ?_|(refine wC rfl ?_ ?_<;>(intro hb;(try simp only [nm] at hb);try (exfalso;omega)))|(refine rg 0 (bS (bZ rfl rfl) rfl (aV ?_)))|(refine rg 1 (fR T rfl (mW rfl (vV (cH rfl rfl (by omega) (by omega)) (vV (kC (ca)) (vV (cT rfl) (mW rfl (yP T rfl (yO T rfl (yV (dI rfl rfl) ?_)))))))));refine yM ?_;refine aY rfl rfl ?_ ?_<;>(intro hb;rw [hb];(try simp only [nm] at hb);try (exfalso;omega));(all_goals (refine yP T rfl (yO T rfl (gT (qW T rfl (yV (dX rfl rfl) (gT (pW rfl (pW rfl (mV ?_))))))));refine aY rfl rfl ?_ ?_<;>(intro hb;rw [hb];(try simp only [nm] at hb);try (exfalso;omega))));(all_goals (refine yP T rfl (yO T rfl (yV (dI rfl rfl) (yM ?_)));refine aY rfl rfl ?_ ?_<;>(intro hb;rw [hb];(try simp only [nm] at hb);try (exfalso;omega))));(all_goals (refine yP T rfl (yO T rfl (yV (dI rfl rfl) (gT (pW rfl (pV ?_))))))))|(refine rg 3 (AC T ?_))|(refine rg 4 (vV (bW rfl rfl) (aV ?_)))|(refine rg 6 (vV (bW rfl rfl) (aV ?_)))|(refine rg 7 (vV (bW rfl rfl) (aV ?_)))|(refine rg 8 (vV (bW rfl rfl) (aV ?_)))|(refine rg 10 (vV (bW rfl rfl) (aV ?_)))|(refine rg 12 (vV (bW rfl rfl) (aV ?_)))|(refine rg 14 (aV ?_))|refine nZ ?_));all_goals first | (exfalso;omega) | exact rQ
theorem cJ (l:List Int):∀ e,e∈ints l→AV.idfL e=true:=by
  intro e he;obtain ⟨i,_,rfl⟩:=bB.1 he;rfl
theorem vM (l:List BX):∀ e,e∈dY l→AV.idfL e=true:=by
  intro e he;obtain ⟨i,_,rfl⟩:=bB.1 he;rfl
section
variable {ks:List KD}{ls:List LT}{ps:List Int}{bs:List BX}{m st er sl k a b n id lot ct ta done:Int}{ids:List Int}{M:Int}
end
section
variable {P:Program}{env:eG}{h:Hp}{d:Option Nat}{ty:TypeId}{pos:String}{af:Array Edge}{g:Option (Nat × Bool)}
end
section
variable {ks:List KD}{ls:List LT}{ps:List Int}{bs:List BX}{m st er sl k a b n id lot ct ta done:Int}{ids:List Int}{M:Int}
end
end Go.Proofs.YtojgimibalokkaaGreat
namespace Go.Proofs.YtojgimibalokkaaGreat
open Go Go.Ab Go.Shelf Go.Proofs
shelf_lay Lays.n189 Nm 189 at Tryz as laysSort
theorem VU (l:List Int) (hl:l.length≤17592186043904):aP Tryz.prog 83 [.sl 0 0 l.length 1] [.arr (ints l) 1] (.tup []) [.arr (ints (jJ l)) 1]:=
  NM ⟨_,Tryz.func83,by kernel_rfl,by kernel_rfl⟩ (fun blk off cap zs w h1 h2 h3=>Any.slices_Sort_int laysSort blk off cap zs w h1 h2 h3) (fun p cap w=>Any.slices_Sort_int_none laysSort p cap w) l hl
end Go.Proofs.YtojgimibalokkaaGreat
namespace Go.Proofs.YtojgimibalokkaaGreat
open Go Go.Ab
attribute [local irreducible] VC AW cF aP AY VY BO
set_option maxHeartbeats 4000000
theorem J4 (l:List Int) (hl:l.length≤17592186043904):aP Tryz.prog 38 [.rowE (ints l) 1] [] (.sl 0 0 l.length 1) [.arr (ints l) 1]:=by
  have hll:(ints l).length=l.length:=by simp
  refine bL T Tryz.func38 rfl rfl rfl rfl ?_
  repeat' (first|refine wS ?_|refine wK ?_|refine wT ?_|refine wU ?_|(refine rg 0 (aV ?_))|(refine rg 1 (mV ?_);refine sA T rfl rfl rfl rfl fun b hb=>?_;cases b)|refine nZ ?_)
  · (repeat' (first|refine wR ?_|(refine rg 3 (bS (by exact bF T rfl rfl (by decide) (by decide) rfl rfl rfl) rfl ?_);refine mW rfl (gD T rfl rfl rfl rfl rfl rfl (by decide) (.row (ints_len l)) (sQ l) (by simp;omega) (by simp;omega) rfl ?_);refine aV ?_)|(refine nZ ?_)));exact ⟨.inl rfl,[1],_,rfl,(by show AV.sl 1 0 (0+(ints l).length) 1=AV.sl 1 0 l.length 1;simp),rfl,⟨.inr (aE rfl rfl (cJ _)),trivial⟩,by decide,K8⟩
  · have hl0:l=[]:=fP.1 (Classical.byContradiction fun h=>by have:=hb (by omega);cases this)
    subst hl0
    (repeat' (first|refine wR ?_|(refine rg 2 (vV (dS rfl) (rY 2 1 rfl (by decide) ?_)))|refine nZ ?_));exact ⟨.inl rfl,[0],_,rfl,rfl,rfl,⟨.inr (aE rfl rfl (cJ _)),trivial⟩,by decide,K8⟩
abbrev zE0 (l:List Int):AV:=.clo (.func 95) [] [.pr [.rowE (ints l) 1] 0]
theorem G1 (l:List Int):aP Tryz.prog 54 [.rowE (ints l) 1] [] (zE0 l) []:=by
  refine NP rfl ?_;refine bL T Tryz.func54 rfl rfl rfl rfl ?_
  (repeat' (first|refine wS ?_|refine wR ?_|(refine rg 0 (bS (bZ rfl rfl) rfl (aV ?_)))|(refine rg 1 (vV (by exact gI rfl rfl) ?_);refine aV ?_)|refine nZ ?_));exact ⟨.inl rfl,[0],_,rfl,rfl,rfl,⟨.inr rfl,trivial⟩,by decide,K8⟩
def zT4 (l:List Int) (k:Nat):List AV:=match l[k]? with
  | some x=>[.i x]
  | none=>[]
theorem EP {l:List Int}{k:Nat}(h:k<l.length):zT4 l k=[.i l[k]]:=by unfold zT4;rw [aA h]
theorem RF (l:List Int) (hl:l.length≤17592186043904):BO Tryz.prog 95 [] [.pr [.rowE (ints l) 1] 0] [] (zT4 l) l.length:=by
  have hll:(ints l).length=l.length:=by simp
  refine zS1 T Tryz.func95 rfl rfl rfl rfl ?_;intro J A y hJ hy
  (repeat' (first|(first|(refine xG ?_)|(refine zL ?_))|(((refine qE hJ (eS (id:=0) ?_)));(all_goals (refine lV T ?_;(refine qV T ?_);refine mV ?_)))|refine nZ ?_));refine GH (X:={k:Nat // k≤l.length}) (fun k=>[(0,.clo (.yield y) [] []),(5,.rowE (ints l) 1),(6,.i (ints l).length),(7,.i (k.1:Int))]) (fun _=>[]) (fun k=>(k.1,false)) (fun k=>l.length-k.1) ⟨0,cC _⟩ rfl (fU []) ?_
  rintro ⟨k,hkl⟩;dsimp only;by_cases hk:k<l.length
  · have hit:=EP hk;have q1:(ints l)[(k:Int).toNat]? = some [AV.i l[k]]:=by rw [bR,bN,aA hk];rfl
    generalize l[k]=x at *
    (repeat' (first|(first|(refine xG ?_)|(refine zL ?_)|(refine U2 ?_)|(refine ZU ?_))|((refine xH rfl (fun hb=>?_) (fun hb=>?_)<;>(((try simp only [nm] at hb);try ((exfalso;omega);done)))))|(((refine qE hJ (eS (id:=1) ?_)));(all_goals (refine vV (aK rfl rfl) ?_)))|(((refine qE hJ (eS (id:=2) ?_)));(all_goals (refine vV (ix T rfl (by omega) (ints_len _) q1) ?_;refine lV T ?_;refine aV ?_)))|(((refine EH (id:=3) ?_));((refine UY 2 hJ ?_));(dsimp only [List.take,List.drop]);(all_goals (refine yG7 ?_;refine iD ?_;refine HE hJ hy rfl rfl rfl hk hit rfl ?_));(all_goals (intro yes));(all_goals (refine zQ4 hJ ?_;refine vV (cT rfl) ?_;refine T1 (by ((dsimp only [List.nil_append,List.cons_append,List.append_nil,List.length_cons,List.length_nil,List.set_cons_zero,List.set_cons_succ,List.map_cons,List.map_nil,jZ,mJ,mO,qN,LO,E3,V7,V5,V4,V6,E2,E5,E1,E4,Nat.zero_add,Nat.add_zero,Nat.reduceAdd,Bool.not_true,Bool.not_false];done))) ?_)))|(((refine qE hJ (eS (id:=4) ?_)));(all_goals (refine vV (bP rfl rfl (by omega) (by omega)) ?_;refine mV ?_)))|refine nZ ?_));all_goals first | (exfalso;omega) | skip
    · exact ⟨.inl rfl,fun h=>(by first | (subst hb;cases h) | (cases h;done)),[],rfl⟩
    · obtain rfl:=hb;exact ⟨⟨k+1,hk⟩,by dsimp only;omega,rfl,fU []⟩
  · (repeat' (first|(first|(refine xG ?_)|(refine GI ?_))|((refine xH rfl (fun hb=>?_) (fun hb=>?_) <;> (((try simp only [nm] at hb);try ((exfalso;omega);done)))))|(((refine qE hJ (eS (id:=1) ?_)));(all_goals (refine vV (aK rfl rfl) ?_)))|(refine T1 (by ((dsimp only [List.nil_append,List.cons_append,List.append_nil,List.length_cons,List.length_nil,List.set_cons_zero,List.set_cons_succ,List.map_cons,List.map_nil,jZ,mJ,mO,qN,LO,E3,V7,V5,V4,V6,E2,E5,E1,E4,Nat.zero_add,Nat.add_zero,Nat.reduceAdd,Bool.not_true,Bool.not_false];done))) ?_)));all_goals first | (exfalso;omega) | skip
    exact ⟨.inr rfl,fun _=>by show k=_;omega,[],rfl⟩
abbrev yJ7 (l:List Int):Hp:=[.cells [.sl 1 0 l.length 1],.arr (ints l) 1]
theorem yI0:∀ i:Nat,i<1→([0,3]:List Nat)[i]? = some i:=by decide
theorem KS (l:List Int) (hl:l.length≤17592186043904):aP Tryz.prog 123 [.nils,zE0 l] [] (.sl 0 0 l.length 1) [.arr (ints l) 1]:=by
  have hit:=RF l hl;refine bL T Tryz.func123 rfl rfl rfl rfl ?_
  (repeat' (first|refine wS ?_|refine wB ?_|(refine rg 0 (bS (bZ rfl rfl) rfl (aV ?_)))|(refine rg 1 (mV ?_))|refine nZ ?_));refine xI 0 0 1 rfl rfl (by decide) ?_
  refine KN [] [0,1] [(2,.ptr 0 0)] (fun k=>yJ7 (l.take k)) 1 rfl hit rfl rfl rfl trivial bK rfl ⟨rfl,trivial⟩ ⟨.inr rfl,.inr rfl,trivial⟩ (by decide) (K8) (by simp) (cC _) (aS rfl) rfl (by decide) (fun k hk=>by rw [EP hk];exact ⟨rfl,rfl⟩) ?_ ?_
  · intro k hk;rw [EP hk];have hks:=aM hk;have hkl:(l.take k).length≤l.length:=List.length_take_le' _ _;generalize l.take k=K at hks hkl ⊢;generalize l[k]=x at *;refine eS (id:=2) ?_;refine vV (by exact dS rfl) ?_
    refine iD ?_;refine ⟨rfl,?_⟩
    repeat' (first|refine wB ?_|(refine rg 3 (lW T rfl (mW rfl (bS (by exact bF T rfl rfl (by decide) (by decide) rfl rfl rfl) rfl ?_)));refine gD T rfl rfl rfl rfl rfl rfl (by simp) (kZ.whole rfl rfl) rfl (by simp;omega) (by simp;omega) rfl ?_;refine aU T rfl rfl rfl rfl rfl rfl (by decide) rfl ?_)|refine nZ ?_)
    show GW _ _ _ _ (yJ7 (l.take (k+1)));rw [hks];exact ⟨[0,3],rfl,trivial,⟨.inr (by simp;rfl),.inr (aE rfl (by simp;exact cD (by simp)) (cJ _)),trivial⟩,by decide,yI0⟩
  · have e:l.take l.length=l:=cQ;rw [e]
    (repeat' (first|refine wS ?_|refine wR ?_|(refine rg 4 (lW T rfl (aV ?_)))|refine nZ ?_));exact ⟨.inl rfl,[1],_,rfl,rfl,rfl,⟨.inr (aE rfl rfl (cJ _)),trivial⟩,by decide,K8⟩
theorem UE (l:List Int) (hl:l.length≤17592186043904):aP Tryz.prog 94 [zE0 l] [] (.sl 0 0 l.length 1) [.arr (ints l) 1]:=by
  have h1:=KS l hl;have hrf:=PI l;refine bL T Tryz.func94 rfl rfl rfl rfl ?_
  (repeat' (first|refine wS ?_|refine wR ?_|(refine rg 0 (aV ?_))|(refine rg 1 (mW rfl (bS (by exact hO rfl rfl h1 (.inr ⟨rfl,rfl,by simp⟩)) rfl ?_));refine aV ?_)|refine nZ ?_));exact ⟨.inl rfl,[0],_,rfl,rfl,rfl,⟨.inr (aE rfl (Z5 _ _) (cJ _)),trivial⟩,by decide,K8⟩
theorem V9 (l:List Int) (hl:l.length≤17592186043904):aP Tryz.prog 53 [zE0 l] [] (.rowE (ints (jJ l)) 1) []:=by
  refine jS (by simp [wI]:l.length=(ints (jJ l)).length) (TD _) ?_
  have h1:=UE l hl;have h2:=VU l hl;have hrf:=PI l;generalize jJ l=B at *;refine bL T Tryz.func53 rfl rfl rfl rfl ?_
  (repeat' (first|refine wS ?_|refine wR ?_|(refine rg 0 (aV ?_))|(refine rg 1 (mW rfl (bS (by exact hO rfl rfl h1 (.inr ⟨rfl,rfl,by simp⟩)) rfl ?_));refine aV ?_)|(refine rg 2 (mW rfl (fO [0] rfl rfl h2 rfl rfl (by decide) ⟨.inr (aE rfl (Z5 _ _) (cJ _)),trivial⟩ (by simp) rfl ?_)))|(refine rg 3 (mW rfl (aV ?_)))|refine nZ ?_));exact ⟨.inl rfl,[0],_,rfl,rfl,rfl,⟨.inr (aE rfl (Z5 _ _) (cJ _)),trivial⟩,by decide,K8⟩
end Go.Proofs.YtojgimibalokkaaGreat
namespace Go.Pm
structure Rt (p:List Nat):Prop where
  nd:p.Nodup
  lt:∀ x,x∈p→x<p.length
abbrev pM (p:List Nat) (i:Nat):Nat:=p.getD i 0
theorem uN {p:List Nat}{i:Nat}(h:i<p.length):pM p i=p[i]:=by
  rw [pM,aC,aA h];rfl
theorem Rt.ltAt {p:List Nat}(r:Rt p){i:Nat}(h:i<p.length):pM p i<p.length:=by
  rw [uN h];exact r.lt _ (aI h)
theorem Rt.inj {p:List Nat}(r:Rt p){i j:Nat}(hi:i<p.length) (hj:j<p.length) (e:pM p i=pM p j):i=j:=by
  rw [uN hi,uN hj] at e;have h:=jF.1 r.nd;rcases Nat.lt_trichotomy i j with h1 | h1 | h1
  · exact absurd e (h i j hi hj h1)
  · exact h1
  · exact absurd e.symm (h j i hj hi h1)
theorem Rt.mem {p:List Nat}(r:Rt p){x:Nat}(h:x<p.length):x∈p:=by
  apply Classical.byContradiction;intro hx;have h1:(x::p).Nodup:=eY.2 ⟨hx,r.nd⟩
  have:=h1.length_le_of_subset (l₂:=List.range p.length) (fun y hy=>by
    rw [eJ];rcases bT.1 hy with rfl | hy
    · exact h
    · exact r.lt y hy)
  simp at this;omega
def OE (p:List Nat) (a b:Nat):List Nat:=(p.set a (pM p b)).set b (pM p a)
theorem zF0 (p:List Nat) (a b:Nat):(OE p a b).length=p.length:=by simp [OE]
inductive Sw (x:List Nat):Bool→List Nat→Prop
  | refl:Sw x false x
  | swap {b:Bool} {y:List Nat} {i j:Nat}:Sw x b y→i<x.length→j<x.length→i≠j→Sw x (!b) (OE y i j)
theorem Sw.len {x y:List Nat}{b:Bool}(h:Sw x b y):y.length=x.length:=by
  induction h with
  | refl=>rfl
  | swap _ _ _ _ ih=>rw [zF0];exact ih
abbrev bt (s:List Bool) (i:Nat):Bool:=s.getD i false
theorem zZ9 {s:List Bool}{i j:Nat}{v:Bool}(h:i<s.length):bt (s.set i v) j=if i=j then v else bt s j:=by
  rw [bt,aC,gB];by_cases e:i=j
  · rw [if_pos e,if_pos e,if_pos h];rfl
  · rw [if_neg e,if_neg e,bt,aC]
def zO3 (p:List Nat):Nat→List Bool→List Nat→Nat→List Bool × List Nat
  | 0,sn,c,_=>(sn,c)
  | f+1,sn,c,k=>if bt sn k then (sn,c) else zO3 p f (sn.set k true) (c++[k]) (pM p k)
def UB (p:List Nat):Nat→List Bool × List (List Nat)
  | 0=>(List.replicate p.length false,[])
  | i+1=>((zO3 p p.length (UB p i).1 [] i).1,if 1<(zO3 p p.length (UB p i).1 [] i).2.length then (UB p i).2++[(zO3 p p.length (UB p i).1 [] i).2] else (UB p i).2)
def yI8 (p:List Nat):List (List Nat):=(UB p p.length).2
structure CI (p:List Nat) (sn0:List Bool) (i:Nat) (sn:List Bool) (c:List Nat) (k:Nat):Prop where
  len:sn.length=p.length
  nd:c.Nodup
  lt:∀ x,x∈c→x<p.length
  sn:∀ x,x<p.length→(bt sn x=true↔bt sn0 x=true∨x∈c)
  new:∀ x,x∈c→bt sn0 x=false
  z:c=[]→k=i
  hd:c≠[]→pM c 0=i
  nx:c≠[]→k=pM p (pM c (c.length-1))
  st:∀ j,j+1<c.length→pM c (j+1)=pM p (pM c j)
  k:k<p.length
theorem U3 {c:List Nat}{k j:Nat}:pM (c++[k]) j=if j<c.length then pM c j else if j=c.length then k else 0:=by
  rw [pM,aC];by_cases h:j<c.length
  · rw [if_pos h,aG h,pM,aC]
  · rw [if_neg h,aD (by omega)]
    by_cases h2:j=c.length
    · rw [if_pos h2,h2];simp
    · rw [if_neg h2];rw [cN (by simp;omega)];rfl
theorem CI.step {p:List Nat}(r:Rt p){sn0 sn:List Bool}{i k:Nat}{c:List Nat}(h:CI p sn0 i sn c k) (hb:bt sn k=false):CI p sn0 i (sn.set k true) (c++[k]) (pM p k):=by
  have hk:=h.k;have hkc:¬ (bt sn0 k=true∨k∈c):=fun q=>by rw [(h.sn k hk).2 q] at hb;cases hb
  refine ⟨by simp [h.len],?_,fun x hx=>?_,fun x hx=>?_,fun x hx=>?_,fun e=>by simp at e,fun _=>?_,fun _=>?_,fun j hj=>?_,r.ltAt hk⟩
  · rw [cO];exact ⟨h.nd,by simp,fun a ha b hb e=>by simp at hb;subst hb;subst e;exact hkc (.inr ha)⟩
  · rcases bG.1 hx with hx | hx
    · exact h.lt x hx
    · simp at hx;subst hx;exact hk
  · rw [zZ9 (by rw [h.len];exact hk)]
    by_cases e:k=x
    · subst e;simp
    · rw [if_neg e,h.sn x hx];simp [Ne.symm e]
  · rcases bG.1 hx with hx | hx
    · exact h.new x hx
    · simp at hx;subst hx;rw [← eA];exact fun q=>hkc (.inl q)
  · rw [U3];cases c with
    | nil=>simp;exact h.z rfl
    | cons a c=>simp;exact h.hd (by simp)
  · simp [U3]
  · simp at hj;rw [U3,U3,if_pos hj];by_cases e:j+1<c.length
    · rw [if_pos e];exact h.st j e
    · rw [if_neg e,if_pos (by omega)]
      have:=h.nx (by intro q;subst q;simp at hj)
      rw [this,show c.length-1=j by omega]
structure yK5 (p:List Nat) (c:List Nat):Prop where
  ne:c≠[]
  nd:c.Nodup
  lt:∀ x,x∈c→x<p.length
  st:∀ j,j<c.length→pM p (pM c j)=pM c ((j+1) % c.length)
theorem CI.fin {p:List Nat}(r:Rt p){sn0 sn:List Bool}{i k:Nat}{c:List Nat}(h:CI p sn0 i sn c k) (hcl:∀ x,x<p.length→bt sn0 (pM p x)=true→bt sn0 x=true) (hb:bt sn k=true) (hc:c≠[]):yK5 p c:=by
  have hc0:0<c.length:=eV.2 hc;have hlast:pM c (c.length-1)∈c:=by rw [uN (by omega)];exact aI _
  have hki:k=pM c 0:=by
    have hnx:=h.nx hc;rcases (h.sn k h.k).1 hb with h1 | h1
    · rw [hnx] at h1;have:=hcl _ (h.lt _ hlast) h1;rw [h.new _ hlast] at this;cases this
    · obtain ⟨j,hj,e⟩:=iU.1 h1;rw [← uN hj] at e;cases j with
      | zero=>exact e.symm
      | succ j=>
        have h2:=h.st j hj;rw [e,hnx] at h2;have hjm:pM c j∈c:=by rw [uN (by omega)];exact aI _
        have h3:=r.inj (h.lt _ hlast) (h.lt _ hjm) h2;rw [uN (by omega),uN (by omega)] at h3
        have hp:=jF.1 h.nd;exact absurd h3.symm (hp j (c.length-1) (by omega) (by omega) (by omega))
  refine ⟨hc,h.nd,h.lt,fun j hj=>?_⟩
  by_cases e:j+1<c.length
  · rw [Nat.mod_eq_of_lt e,h.st j e]
  · have:j=c.length-1:=by omega
    rw [show j+1=c.length by omega,Nat.mod_self,← hki,h.nx hc,this]
def ZM (x c:List Nat):Nat→List Nat
  | 0=>x
  | k+1=>OE (ZM x c k) (pM c k) (pM c (k+1))
def QG (x c:List Nat):List Nat:=ZM x c (c.length-1)
theorem Z1 {c:List Nat}(h:c.Nodup){i j:Nat}(hi:i<c.length) (hj:j<c.length) (e:pM c i=pM c j):i=j:=by
  rw [uN hi,uN hj] at e;have h:=jF.1 h;rcases Nat.lt_trichotomy i j with h1 | h1 | h1
  · exact absurd e (h i j hi hj h1)
  · exact h1
  · exact absurd e.symm (h j i hj hi h1)
def yI1:Nat→Nat
  | 0=>1
  | n+1=>yI1 n*(n+1)
abbrev Up (l:List Nat):Prop:=l.Pairwise (· < ·)
theorem Rt.perm {p:List Nat}(r:Rt p):p.Perm (List.range p.length):=
  (List.perm_ext_iff_of_nodup r.nd zQ0).2 fun x=>by rw [eJ];exact ⟨r.lt x,r.mem⟩
end Go.Pm
namespace Go.Pm
open Go.Ab
def permB (p:List Int):Bool:=decide (jJ p=nats (List.range p.length))
theorem le_tr:∀ (a b c:Int),decide (a≤b)=true→decide (b≤c)=true→decide (a≤c)=true:=fun a b c h1 h2=>by simp at *;omega
theorem zW6:∀ (a b:Int),(decide (a≤b)||decide (b≤a))=true:=fun a b=>by simp;omega
theorem sorted_perm (p:List Int):(jJ p).Perm p:=List.mergeSort_perm _ _
theorem sorted_up (p:List Int):(jJ p).Pairwise (fun a b=>a≤b):=
  (BI le_tr zW6 p).imp (fun h=>by simpa using h)
theorem sorted_eq {p q:List Int}(h:p.Perm q) (hq:q.Pairwise (fun a b=>a≤b)):jJ p=q:=
  List.Perm.eq_of_pairwise (le:=fun a b=>a≤b) (fun a b _ _ h1 h2=>by omega) (sorted_up p) hq ((sorted_perm p).trans h)
theorem range_le (n:Nat):(nats (List.range n)).Pairwise (fun a b=>a≤b):=
  List.Pairwise.map _ (fun a b h=>by omega) (BZ (n:=n))
end Go.Pm
namespace Go.Ab
open Go
section
variable {P:Program}
theorem NQ {f:FuncId}{args:List AV}{e1 e2:List (List AV)}{l1 l2 s1 s2:Nat}{u:AV}(hn1:l1=e1.length) (hn2:l2=e2.length) (hi1:AV.idfL e1.flatten=true) (hi2:AV.idfL e2.flatten=true) (hu:u.idf=true)
    (h:aP P f args [] (.tup [.sl 0 0 l1 s1,.sl 1 0 l2 s2,u]) [.arr e1 s1,.arr e2 s2]):aP P f args [] (.tup [.rowE e1 s1,.rowE e2 s2,u]) []:=by
  refine ⟨h.1,fun ρ S w vs hs ha=>(h.2 ρ S w vs hs ha).mono ?_⟩;rintro e w' ⟨y,ρ',S',rfl,h2,h3⟩;rw [hn1,hn2] at h3;have f1:=h2.freeze (k:=0) rfl;have f2:=f1.freeze (k:=1) rfl;refine ⟨y,_,_,rfl,f2.none rfl,?_⟩;simp only [R] at h3 ⊢;obtain ⟨ys,rfl,h7⟩:=h3;refine ⟨ys,rfl,?_⟩;simp only [RL] at h7 ⊢;obtain ⟨z1,q1,h5,g1,z2,q2,rfl,g2,z3,q3,rfl,g3,rfl⟩:=h7;refine ⟨z1,_,h5,?_,z2,_,rfl,?_,z3,_,rfl,?_,rfl⟩
  · exact KU (fun _ h=>.inl h) (R3 ρ' _ _ _ rfl (wY hi1 (h2.blk 0 _ rfl) g1))
  · exact R3 ρ' _ _ _ rfl (wY hi2 (f1.blk 1 _ rfl) (KU (fun _ h=>.inl h) g2))
  · exact KU (fun _ h=>.inl (.inl h)) (R3 ρ' _ _ _ hu g3)
end
end Go.Ab
namespace Go.Proofs.YtojgimibalokkaaGreat
open Go Go.Ab
attribute [local irreducible] VC AW cF aP
set_option maxHeartbeats 4000000
theorem iW {θ:Nat→Nat}{f:Fn}{caps:List AV}(hi:AV.idfL caps=true):(AV.clo f [] caps).map θ = .clo f [] caps:=by
  show AV.clo f (AV.mapL θ []) (AV.mapL θ caps)=_;rw [mD θ caps hi];rfl
theorem YD {w:List KD}{F:FuncId}{caps:List AV}(hl:w.length≤1000) (hi:AV.idfL caps=true) (hF:∀ x,x∈w→aP Tryz.prog F (.agg [AV.v (.string x.1),AV.i x.2]::caps) [] (.b false) []) :
    aP Tryz.prog 118 [.rowE (fF w) 2,.clo (.func F) [] caps] [] (.i (-1)) []:=by
  have hlen:(fF w).length=w.length:=by simp
  refine bL T Tryz.func118 rfl rfl rfl rfl ?_
  (repeat' (first|refine wS ?_|refine wB ?_|(refine rg 0 (aV ?_))|(refine rg 1 (mW rfl (qW T rfl (mV ?_))))|refine nZ ?_));refine cX (X:={k:Nat // k≤w.length}) (fun k=>[(0,.rowE (fF w) 2),(1,.clo (.func F) [] caps),(7,.i (fF w).length),(8,.i k.1)]) (fun _=>[]) (fun k=>w.length-k.1) ⟨0,by simp⟩ ⟨[],rfl,⟨rfl,by rw [iW hi];rfl,rfl,rfl,trivial⟩,trivial,bK,fun _ h=>absurd h (cW _)⟩ ?_
  rintro ⟨k,hk⟩;dsimp only;by_cases hlt:k<w.length
  · have hc:=hF w[k] (aI hlt);have hg:=A5 (l:=w) hlt;generalize w[k]=y at *
    (repeat' (first|refine wS ?_|refine wB ?_|refine wK ?_|refine wU ?_|(refine wC rfl ?_ ?_<;>(intro hb;(try simp only [nm] at hb);try (exfalso;omega)))|(refine rg 2 (vV (aK rfl rfl) ?_))|(refine rg 3 (mW rfl (aV ?_)))|(refine rg 4 (dR rfl (mW rfl (vV (ix T rfl (by omega) (rV w) hg) (lW T rfl (vV (by exact eL rfl rfl hc rfl (by simp [AV.idfL,AV.idf,hi]) rfl) ?_))))))|(refine rg 6 (vV (bP rfl rfl (by omega) (by omega)) (mV ?_)))|refine nZ ?_));all_goals first | (exfalso;omega) | exact ⟨⟨k+1,hlt⟩,by dsimp only;omega,⟨[],rfl,⟨rfl,by rw [iW hi];rfl,rfl,rfl,trivial⟩,trivial,bK,fun _ h=>absurd h (cW _)⟩⟩
  · (repeat' (first|refine wS ?_|refine wR ?_|refine wE ?_|(refine wC rfl (fun hb=>?_) (fun hb=>?_) <;> (((try simp only [nm] at hb);try (exfalso;omega))))|(refine rg 2 (vV (aK rfl rfl) ?_))|(refine rg 7 (aV ?_))|(refine nZ ?_)));all_goals first | (exfalso;omega) | exact rQ
theorem zX5 {w:List KD}{F:FuncId}{caps:List AV}(hl:w.length≤1000) (hi:AV.idfL caps=true) (hF:∀ x,x∈w→aP Tryz.prog F (.agg [AV.v (.string x.1),AV.i x.2]::caps) [] (.b false) []) :
    aP Tryz.prog 87 [.rowE (fF w) 2,.clo (.func F) [] caps] [] (.b false) []:=by
  have hc:=YD hl hi hF;refine bL T Tryz.func87 rfl rfl rfl rfl ?_
  (repeat' (first|refine wS ?_|refine wR ?_|(refine rg 0 (aV ?_))|(refine rg 1 (dR rfl (vV (by exact eL rfl rfl hc rfl (by simp [AV.idfL,AV.idf,hi]) rfl) ?_));refine vV (fM rfl rfl) (aV ?_))|refine nZ ?_));all_goals first | (exfalso;omega) | exact rQ
theorem YC {w:List LT}{F:FuncId}{caps:List AV}(hl:w.length≤1000) (hi:AV.idfL caps=true) (hF:∀ x,x∈w→aP Tryz.prog F (.agg [AV.i x.1,AV.i x.2.1,AV.b x.2.2]::caps) [] (.b false) []) :
    aP Tryz.prog 119 [.rowE (iF w) 3,.clo (.func F) [] caps] [] (.i (-1)) []:=by
  have hlen:(iF w).length=w.length:=by simp
  refine bL T Tryz.func119 rfl rfl rfl rfl ?_
  (repeat' (first|refine wS ?_|refine wB ?_|(refine rg 0 (aV ?_))|(refine rg 1 (mW rfl (qW T rfl (mV ?_))))|refine nZ ?_));refine cX (X:={k:Nat // k≤w.length}) (fun k=>[(0,.rowE (iF w) 3),(1,.clo (.func F) [] caps),(7,.i (iF w).length),(8,.i k.1)]) (fun _=>[]) (fun k=>w.length-k.1) ⟨0,by simp⟩ ⟨[],rfl,⟨rfl,by rw [iW hi];rfl,rfl,rfl,trivial⟩,trivial,bK,fun _ h=>absurd h (cW _)⟩ ?_
  rintro ⟨k,hk⟩;dsimp only;by_cases hlt:k<w.length
  · have hc:=hF w[k] (aI hlt);have hg:=H5 (l:=w) hlt;generalize w[k]=y at *
    (repeat' (first|refine wS ?_|refine wB ?_|refine wK ?_|refine wU ?_|(refine wC rfl ?_ ?_<;>(intro hb;(try simp only [nm] at hb);try (exfalso;omega)))|(refine rg 2 (vV (aK rfl rfl) ?_))|(refine rg 3 (mW rfl (aV ?_)))|(refine rg 4 (dR rfl (mW rfl (vV (ix T rfl (by omega) (vC w) hg) (lW T rfl (vV (by exact eL rfl rfl hc rfl (by simp [AV.idfL,AV.idf,hi]) rfl) ?_))))))|(refine rg 6 (vV (bP rfl rfl (by omega) (by omega)) (mV ?_)))|refine nZ ?_));all_goals first | (exfalso;omega) | exact ⟨⟨k+1,hlt⟩,by dsimp only;omega,⟨[],rfl,⟨rfl,by rw [iW hi];rfl,rfl,rfl,trivial⟩,trivial,bK,fun _ h=>absurd h (cW _)⟩⟩
  · (repeat' (first|refine wS ?_|refine wR ?_|refine wE ?_|(refine wC rfl (fun hb=>?_) (fun hb=>?_) <;> (((try simp only [nm] at hb);try (exfalso;omega))))|(refine rg 2 (vV (aK rfl rfl) ?_))|(refine rg 7 (aV ?_))|(refine nZ ?_)));all_goals first | (exfalso;omega) | exact rQ
theorem zX4 {w:List LT}{F:FuncId}{caps:List AV}(hl:w.length≤1000) (hi:AV.idfL caps=true) (hF:∀ x,x∈w→aP Tryz.prog F (.agg [AV.i x.1,AV.i x.2.1,AV.b x.2.2]::caps) [] (.b false) []) :
    aP Tryz.prog 89 [.rowE (iF w) 3,.clo (.func F) [] caps] [] (.b false) []:=by
  have hc:=YC hl hi hF;refine bL T Tryz.func89 rfl rfl rfl rfl ?_
  (repeat' (first|refine wS ?_|refine wR ?_|(refine rg 0 (aV ?_))|(refine rg 1 (dR rfl (vV (by exact eL rfl rfl hc rfl (by simp [AV.idfL,AV.idf,hi]) rfl) ?_));refine vV (fM rfl rfl) (aV ?_))|refine nZ ?_));all_goals first | (exfalso;omega) | exact rQ
theorem YE {w:List BX}{F:FuncId}{caps:List AV}(hl:w.length≤1000) (hi:AV.idfL caps=true) (hF:∀ x,x∈w→aP Tryz.prog F (.agg [AV.i x.1,AV.i x.2.1,AV.i x.2.2]::caps) [] (.b false) []) :
    aP Tryz.prog 120 [.rowE (dY w) 3,.clo (.func F) [] caps] [] (.i (-1)) []:=by
  have hlen:(dY w).length=w.length:=by simp
  refine bL T Tryz.func120 rfl rfl rfl rfl ?_
  (repeat' (first|refine wS ?_|refine wB ?_|(refine rg 0 (aV ?_))|(refine rg 1 (mW rfl (qW T rfl (mV ?_))))|refine nZ ?_));refine cX (X:={k:Nat // k≤w.length}) (fun k=>[(0,.rowE (dY w) 3),(1,.clo (.func F) [] caps),(7,.i (dY w).length),(8,.i k.1)]) (fun _=>[]) (fun k=>w.length-k.1) ⟨0,by simp⟩ ⟨[],rfl,⟨rfl,by rw [iW hi];rfl,rfl,rfl,trivial⟩,trivial,bK,fun _ h=>absurd h (cW _)⟩ ?_
  rintro ⟨k,hk⟩;dsimp only;by_cases hlt:k<w.length
  · have hc:=hF w[k] (aI hlt);have hg:=EG (l:=w) hlt;generalize w[k]=y at *
    (repeat' (first|refine wS ?_|refine wB ?_|refine wK ?_|refine wU ?_|(refine wC rfl ?_ ?_<;>(intro hb;(try simp only [nm] at hb);try (exfalso;omega)))|(refine rg 2 (vV (aK rfl rfl) ?_))|(refine rg 3 (mW rfl (aV ?_)))|(refine rg 4 (dR rfl (mW rfl (vV (ix T rfl (by omega) (lE w) hg) (lW T rfl (vV (by exact eL rfl rfl hc rfl (by simp [AV.idfL,AV.idf,hi]) rfl) ?_))))))|(refine rg 6 (vV (bP rfl rfl (by omega) (by omega)) (mV ?_)))|refine nZ ?_));all_goals first | (exfalso;omega) | exact ⟨⟨k+1,hlt⟩,by dsimp only;omega,⟨[],rfl,⟨rfl,by rw [iW hi];rfl,rfl,rfl,trivial⟩,trivial,bK,fun _ h=>absurd h (cW _)⟩⟩
  · (repeat' (first|refine wS ?_|refine wR ?_|refine wE ?_|(refine wC rfl (fun hb=>?_) (fun hb=>?_) <;> (((try simp only [nm] at hb);try (exfalso;omega))))|(refine rg 2 (vV (aK rfl rfl) ?_))|(refine rg 7 (aV ?_))|(refine nZ ?_)));all_goals first | (exfalso;omega) | exact rQ
theorem zX8 {w:List BX}{F:FuncId}{caps:List AV}(hl:w.length≤1000) (hi:AV.idfL caps=true) (hF:∀ x,x∈w→aP Tryz.prog F (.agg [AV.i x.1,AV.i x.2.1,AV.i x.2.2]::caps) [] (.b false) []) :
    aP Tryz.prog 91 [.rowE (dY w) 3,.clo (.func F) [] caps] [] (.b false) []:=by
  have hc:=YE hl hi hF;refine bL T Tryz.func91 rfl rfl rfl rfl ?_
  (repeat' (first|refine wS ?_|refine wR ?_|(refine rg 0 (aV ?_))|(refine rg 1 (dR rfl (vV (by exact eL rfl rfl hc rfl (by simp [AV.idfL,AV.idf,hi]) rfl) ?_));refine vV (fM rfl rfl) (aV ?_))|refine nZ ?_));all_goals first | (exfalso;omega) | exact rQ
theorem VG (x:KD) (h:0≤x.2∧x.2≤1048576):aP Tryz.prog 88 [.agg [AV.v (.string x.1),AV.i x.2]] [] (.b false) []:=by
  have hw:=yG (n:=x.2) (f:=0) (t:=1048576) h;refine bL T Tryz.func88 rfl rfl rfl rfl ?_
  (repeat' (first|refine wS ?_|refine wR ?_|(refine rg 0 (bS (bZ rfl rfl) rfl (aV ?_)))|(refine rg 1 (fR T rfl (vV (kC (hw)) (vV (cT rfl) (aV ?_)))))|refine nZ ?_));all_goals first | (exfalso;omega) | exact rQ
theorem VF (ks:List KD) (x:LT) (h:0≤x.1∧x.1<ks.length) (hk:ks.length≤1000):aP Tryz.prog 90 [.agg [AV.i x.1,AV.i x.2.1,AV.b x.2.2],.pr [.rowE (fF ks) 2] 0] [] (.b false) []:=by
  have e1:(fF ks).length=ks.length:=by simp
  have hw:=yG (n:=x.1) (f:=0) (t:=((fF ks).length:Int)-1) (by omega)
  refine bL T Tryz.func90 rfl rfl rfl rfl ?_
  (repeat' (first|refine wS ?_|refine wR ?_|(refine rg 0 (bS (bZ rfl rfl) rfl (aV ?_)))|(refine rg 1 (fR T rfl (lW T rfl (qW T rfl (vV (cH rfl rfl (by omega) (by omega)) (vV (kC (hw)) (vV (cT rfl) (aV ?_))))))))|refine nZ ?_));all_goals first | (exfalso;omega) | exact rQ
theorem VH (ls:List LT) (x:BX) (h:-1≤x.1∧x.1<ls.length∧0≤x.2.1∧x.2.1≤20000∧(x.1 = -1→x.2.1=0)∧0≤x.2.2∧x.2.2≤1073741824) (hk:ls.length≤1000):aP Tryz.prog 92 [.agg [AV.i x.1,AV.i x.2.1,AV.i x.2.2],.pr [.rowE (iF ls) 3] 0] [] (.b false) []:=by
  have e1:(iF ls).length=ls.length:=by simp
  obtain ⟨lot,ct,ta⟩:=x;dsimp only at h ⊢;have h1:=yG (n:=lot) (f:=-1) (t:=((iF ls).length:Int)-1) (by omega)
  have h2:=yG (n:=ct) (f:=0) (t:=20000) (by omega)
  have h3:=yG (n:=ta) (f:=0) (t:=1073741824) (by omega)
  refine bL T Tryz.func92 rfl rfl rfl rfl ?_
  (repeat' (first|refine wS ?_|refine wR ?_|(refine rg 0 (bS (bZ rfl rfl) rfl (aV ?_)))|(refine rg 1 (fR T rfl (lW T rfl (qW T rfl (vV (cH rfl rfl (by omega) (by omega)) (vV (kC (h1)) (vV (cT rfl) (mW rfl (yP T rfl (yL T ?_)))))))));refine yV (kC (h2)) (yV (cT rfl) (pW rfl (mW rfl (yP T rfl (yO T rfl (yV (aK rfl rfl) (yM ?_)))))));refine aY rfl rfl ?_ ?_<;>(intro hb;rw [hb];(try simp only [nm] at hb);try (exfalso;omega));(all_goals first|(refine gT (fW T rfl (gT (lW T rfl (gT (vV (dX rfl rfl) ?_))))))|(iterate 3 refine gF ?_));(all_goals (refine gT (pW rfl (pW rfl (mV ?_)))));(all_goals first|(refine gK ?_)|(refine aY rfl rfl ?_ ?_<;>(intro hb;rw [hb];(try simp only [nm] at hb);try (exfalso;omega))));(all_goals (refine yP T rfl (yO T rfl (yV (kC (h3)) (yV (cT rfl) (pW rfl (aV ?_))))))))|refine nZ ?_));all_goals first | (exfalso;omega) | exact rQ
theorem X9:∀ (l m:List Int),l.Nodup→(∀ x,x∈l→x∈m)→m.length≤l.length→l.Perm m
  | [],m,_,_,hl=>by
    have:m=[]:=fP.1 (by simpa using hl)
    subst this;exact List.Perm.refl _
  | x::l,m,hn,hs,hl=>by
    have hx:=hs x (by simp)
    have h2:=List.perm_cons_erase hx
    have h3:=X9 l (m.erase x) (eY.1 hn).2 (fun y hy=>by
      have hyx:y≠x:=fun e=>(eY.1 hn).1 (e▸hy);exact (rB hyx).2 (hs y (aL _ hy))) (by
        rw [oH hx];simp only [List.length_cons] at hl
        omega)
    exact (List.Perm.cons x h3).trans h2.symm
theorem G6 {n:Nat}{ps:List Int}(hl:ps.length=n) (h:∀ i:Nat,i<n→(i:Int)∈ps):jJ ps=Go.Ab.nats (List.range n):=by
  have hnd:(Go.Ab.nats (List.range n)).Nodup:=List.Pairwise.map _ (fun a b hab e=>hab (by omega)) zQ0
  have hsub:∀ x,x∈Go.Ab.nats (List.range n)→x∈ps:=fun x hx=>by
    obtain ⟨i,hi,rfl⟩:=bB.1 hx;exact h i (eJ.1 hi)
  have hp:(Go.Ab.nats (List.range n)).Perm ps:=X9 (Go.Ab.nats (List.range n)) ps hnd hsub (by simp [hl])
  exact Go.Pm.sorted_eq hp.symm (Go.Pm.range_le n)
theorem CU (n:Nat):S6 (Go.Ab.nats (List.range n)) n=true:=by
  refine J8 fun i hi=>?_
  have hi':i<n:=by simpa using hi
  have e:∀ k,k<n→(Go.Ab.nats (List.range n)).getD k 0=(k:Int):=fun k hk=>by
    rw [aC];simp [hk]
  unfold yW;rw [e i hi'];refine ⟨by omega,by omega,fun h0=>?_⟩
  rw [e (i-1) (by omega)];omega
theorem ES {ks:List KD}{ls:List LT}{ps:List Int}{bs:List BX}(t:U7 ks ls ps bs) (h1:ks.length≤1000) (h2:ls.length≤1000) (h3:ps.length≤1000) :
    aP Tryz.prog 44 [.rowE (fF ks) 2,.rowE (iF ls) 3,.rowE (ints ps) 1,.rowE (dY bs) 3] [] (.b true) []:=by
  have e3:(ints ps).length=ps.length:=by simp
  have e4:(dY bs).length=bs.length:=by simp
  have hlen:=t.len;have v1:=G1 ps;have v2:=V9 ps (by omega)
  rw [G6 (n:=ps.length) rfl t.p] at v2;have v3:=B8 (Go.Ab.nats (List.range ps.length)) ps.length (by simp;omega) (by omega)
  rw [CU] at v3;rw [show (ps.length:Int)=((dY bs).length:Int) by omega] at v3
  have c1:=zX5 (w:=ks) (F:=88) (caps:=[]) h1 rfl (fun x hx=>by
    obtain ⟨i,hi,rfl⟩:=iU.1 hx
    exact VG _ (t.k i hi))
  have c2:=zX4 (w:=ls) (F:=90) (caps:=[.pr [.rowE (fF ks) 2] 0]) h2 rfl (fun x hx=>by
    obtain ⟨i,hi,rfl⟩:=iU.1 hx
    exact VF ks _ (t.l i hi) h1)
  have c3:=zX8 (w:=bs) (F:=92) (caps:=[.pr [.rowE (iF ls) 3] 0]) (by omega) rfl (fun x hx=>by
    obtain ⟨i,hi,rfl⟩:=iU.1 hx
    exact VH ls _ (t.b i hi) h2)
  generalize Go.Ab.nats (List.range ps.length)=sr at *;refine bL T Tryz.func44 rfl rfl rfl rfl ?_
  (repeat' (first|refine wS ?_|refine wK ?_|refine wU ?_|(refine rg 0 (bS (bZ rfl rfl) rfl (bS (bZ rfl rfl) rfl (aV ?_))))|(refine rg 1 (mW rfl (vV (kC (v1)) (vV (by exact eL rfl rfl v2 rfl rfl rfl) ?_)));refine aV ?_)|(refine rg 2 (mW rfl (qW T rfl (mW rfl (qW T rfl (vV (I3 rfl rfl (by omega)) (mW rfl (yN rfl (yN rfl (gT ?_)))))))));refine qW T rfl (yV (kC (v3)) (yV (cT rfl) (pV ?_))))|refine nZ ?_));all_goals try (exfalso;omega)
  (repeat' (first|refine wS ?_|refine wR ?_|(refine rg 4 (lW T rfl (vV (by exact eL rfl rfl c1 rfl rfl rfl) ?_));refine aV ?_)|(refine rg 5 (dR rfl (yO T rfl (yV (by exact gI rfl rfl) ?_)));refine yV (by exact eC rfl rfl c2 (.cons (.row _ _ _) (.cons (.clo .nil (.cons (.ptr rfl (.cons (.row _ _ _) .nil)) .nil)) .nil)) rfl rfl) ?_;refine pW rfl (aV ?_))|(refine rg 6 (mW rfl (vV (cT rfl) (mW rfl (yN rfl (yV (by exact gI rfl rfl) ?_)))));refine yV (by exact eC rfl rfl c3 (.cons (.row _ _ _) (.cons (.clo .nil (.cons (.ptr rfl (.cons (.row _ _ _) .nil)) .nil)) .nil)) rfl rfl) ?_;refine yV (cT rfl) (pW rfl (aV ?_)))|refine nZ ?_));all_goals first | (exfalso;omega) | exact rQ
end Go.Proofs.YtojgimibalokkaaGreat
namespace Go.Ab
open Go
section
variable {P:Program}{env:eG}{h:Hp}{d:Option Nat}{ty:TypeId}{pos:String}{af:Array Edge}{g:Option (Nat × Bool)}
theorem zM1 {t t2:TypeId}{x y:Operand}{a b:Int}(hx:evu env x=some (.i a)) (hy:evu env y=some (.i b)) (e:a≤b):cF P ⟨d,.binOp .leq t x y t2,ty,pos,af,g⟩ env h 0 (fun _=>.b true) (fun _=>[]):=by
  have:=jP (P:=P) (d:=d) (ty:=ty) (pos:=pos) (af:=af) (g:=g) (h:=h) (t:=t) (t2:=t2) hx hy;simpa [e] using this
theorem PU {t t2:TypeId}{x y:Operand}{a b:Int}(hx:evu env x=some (.i a)) (hy:evu env y=some (.i b)) (e:¬ a≤b):cF P ⟨d,.binOp .leq t x y t2,ty,pos,af,g⟩ env h 0 (fun _=>.b false) (fun _=>[]):=by
  have:=jP (P:=P) (d:=d) (ty:=ty) (pos:=pos) (af:=af) (g:=g) (h:=h) (t:=t) (t2:=t2) hx hy;simpa [e] using this
end
end Go.Ab
namespace Go.Proofs.YtojgimibalokkaaGreat
open Go Go.Ab
attribute [local irreducible] VC AW cF aP
set_option maxHeartbeats 4000000
theorem MM (l:List Int):AV.idfL (ints l).flatten=true:=by
  induction l with
  | nil=>rfl
  | cons x l ih=>exact ih
theorem NG (l:List BX):AV.idfL (dY l).flatten=true:=by
  induction l with
  | nil=>rfl
  | cons x l ih=>exact ih
end Go.Proofs.YtojgimibalokkaaGreat
namespace Go.Proofs.YtojgimibalokkaaGreat
open Go Go.Ab
section
variable {P:Program}{env:eG}{h:Hp}{d:Option Nat}{ty:TypeId}{pos:String}{af:Array Edge}{g:Option (Nat × Bool)}
theorem PV {t t2:TypeId}{x y:Operand}{a b:Int}(hx:evu env x=some (.i a)) (hy:evu env y=some (.i b)) (e:b<a):cF P ⟨d,.binOp .gtr t x y t2,ty,pos,af,g⟩ env h 0 (fun _=>.b true) (fun _=>[]):=by
  have:=dX (P:=P) (d:=d) (ty:=ty) (pos:=pos) (af:=af) (g:=g) (h:=h) (t:=t) (t2:=t2) hx hy;simpa [show decide (a > b)=true from decide_eq_true (by omega)] using this
theorem I5 {t t2:TypeId}{x y:Operand}{a b:Int}(hx:evu env x=some (.i a)) (hy:evu env y=some (.i b)) (e:a≤b):cF P ⟨d,.binOp .gtr t x y t2,ty,pos,af,g⟩ env h 0 (fun _=>.b false) (fun _=>[]):=by
  have:=dX (P:=P) (d:=d) (ty:=ty) (pos:=pos) (af:=af) (g:=g) (h:=h) (t:=t) (t2:=t2) hx hy;simpa [show decide (a > b)=false from decide_eq_false (by omega)] using this
theorem zL9 {t t2:TypeId}{x y:Operand}{a b:Int}(hx:evu env x=some (.i a)) (hy:evu env y=some (.i b)) (e:a<b):cF P ⟨d,.binOp .lss t x y t2,ty,pos,af,g⟩ env h 0 (fun _=>.b true) (fun _=>[]):=by
  have:=aK (P:=P) (d:=d) (ty:=ty) (pos:=pos) (af:=af) (g:=g) (h:=h) (t:=t) (t2:=t2) hx hy;simpa [show decide (a<b)=true from decide_eq_true (by omega)] using this
theorem zM0 {t t2:TypeId}{x y:Operand}{a b:Int}(hx:evu env x=some (.i a)) (hy:evu env y=some (.i b)) (e:b≤a):cF P ⟨d,.binOp .lss t x y t2,ty,pos,af,g⟩ env h 0 (fun _=>.b false) (fun _=>[]):=by
  have:=aK (P:=P) (d:=d) (ty:=ty) (pos:=pos) (af:=af) (g:=g) (h:=h) (t:=t) (t2:=t2) hx hy;simpa [show decide (a<b)=false from decide_eq_false (by omega)] using this
theorem zM2 {t t2:TypeId}{x y:Operand}{a b:Int}(hx:evu env x=some (.i a)) (hy:evu env y=some (.i b)) (e:b≤a):cF P ⟨d,.binOp .geq t x y t2,ty,pos,af,g⟩ env h 0 (fun _=>.b true) (fun _=>[]):=by
  have:=fM (P:=P) (d:=d) (ty:=ty) (pos:=pos) (af:=af) (g:=g) (h:=h) (t:=t) (t2:=t2) hx hy;simpa [show decide (a ≥ b)=true from decide_eq_true (by omega)] using this
theorem zM3 {t t2:TypeId}{x y:Operand}{a b:Int}(hx:evu env x=some (.i a)) (hy:evu env y=some (.i b)) (e:a<b):cF P ⟨d,.binOp .geq t x y t2,ty,pos,af,g⟩ env h 0 (fun _=>.b false) (fun _=>[]):=by
  have:=fM (P:=P) (d:=d) (ty:=ty) (pos:=pos) (af:=af) (g:=g) (h:=h) (t:=t) (t2:=t2) hx hy;simpa [show decide (a ≥ b)=false from decide_eq_false (by omega)] using this
end
end Go.Proofs.YtojgimibalokkaaGreat
namespace Go.Proofs.YtojgimibalokkaaGreat
open Go Go.Ab Go.Ld
attribute [local irreducible] VC AW cF aP
set_option maxHeartbeats 4000000
theorem DI (x:Int):aP Tryz.prog 106 [.i x] [] (.b false) []:=by
  refine bL T Tryz.func106 rfl rfl rfl rfl ?_
  (repeat' (first|refine wS ?_|refine wR ?_|(refine rg 0 (aV ?_))|(refine rg 1 (dR rfl (vV (dI rfl rfl) (aV ?_))))|refine nZ ?_));all_goals first | (exfalso;omega) | exact cM (.inl rfl) rfl (lX (by simp))
theorem EE (x y:Int):aP Tryz.prog 72 [.i x,.i y] [] (.i (cI x y)) []:=by
  by_cases h1:x<y
  · rw [show cI x y = -1 by unfold cI;rw [if_pos h1]]
    refine bL T Tryz.func72 rfl rfl rfl rfl ?_
    (repeat' (first|refine wS ?_|refine wK ?_|refine wR ?_|refine wU ?_|(refine wC rfl ?_ ?_<;>(intro hb;(try simp only [nm] at hb);try (exfalso;omega)))|(refine rg 0 (aV ?_))|(refine rg 1 (mW rfl (vV (kC (DI x)) (aV ?_))))|(refine rg 2 (mW rfl (vV (kC (DI y)) (aV ?_))))|(refine rg 3 (mV ?_))|(refine rg 7 (mV ?_))|(refine rg 9 (dR rfl (vV (aK rfl rfl) ?_)))|(refine rg 10 (aV ?_))|refine nZ ?_));all_goals first | (exfalso;omega) | exact rQ
  · by_cases h2:y<x
    · rw [show cI x y=1 by unfold cI;rw [if_neg h1,if_pos h2]]
      refine bL T Tryz.func72 rfl rfl rfl rfl ?_
      (repeat' (first|refine wS ?_|refine wK ?_|refine wR ?_|refine wU ?_|(refine wC rfl ?_ ?_<;>(intro hb;(try simp only [nm] at hb);try (exfalso;omega)))|(refine rg 0 (aV ?_))|(refine rg 1 (mW rfl (vV (kC (DI x)) (aV ?_))))|(refine rg 2 (mW rfl (vV (kC (DI y)) (aV ?_))))|(refine rg 3 (mV ?_))|(refine rg 7 (mV ?_))|(refine rg 9 (dR rfl (vV (aK rfl rfl) ?_)))|(refine rg 11 (dR rfl (vV (dX rfl rfl) ?_)))|(refine rg 12 (aV ?_))|refine nZ ?_));all_goals first | (exfalso;omega) | exact rQ
    · rw [show cI x y=0 by unfold cI;rw [if_neg h1,if_neg h2]]
      refine bL T Tryz.func72 rfl rfl rfl rfl ?_
      (repeat' (first|refine wS ?_|refine wK ?_|refine wR ?_|refine wU ?_|(refine wC rfl ?_ ?_<;>(intro hb;(try simp only [nm] at hb);try (exfalso;omega)))|(refine rg 0 (aV ?_))|(refine rg 1 (mW rfl (vV (kC (DI x)) (aV ?_))))|(refine rg 2 (mW rfl (vV (kC (DI y)) (aV ?_))))|(refine rg 3 (mV ?_))|(refine rg 7 (mV ?_))|(refine rg 9 (dR rfl (vV (aK rfl rfl) ?_)))|(refine rg 11 (dR rfl (vV (dX rfl rfl) ?_)))|(refine rg 13 (aV ?_))|refine nZ ?_));all_goals first | (exfalso;omega) | exact rQ
theorem yD5 (x y:Int):aP Tryz.prog 70 [.rowE (ints [x,y]) 1] [] (.i (P6 x y)) []:=by
  have hlen:(ints [x,y]).length=2:=rfl;refine bL T Tryz.func70 rfl rfl rfl rfl ?_
  (repeat' (first|refine wS ?_|refine wB ?_|(refine rg 0 (aV ?_))|(refine rg 1 (aV ?_))|(refine rg 2 (mW rfl (qW T rfl (mV ?_))))|refine nZ ?_));refine cX (X:={k:Nat // k≤2∧(1≤k→x=0)∧(2≤k→y=0)}) (fun k=>[(0,.rowE (ints [x,y]) 1),(3,.i 0),(6,.rowE (ints [x,y]) 1),(7,.i (ints [x,y]).length),(8,.i k.1)]) (fun _=>[]) (fun k=>2-k.1) ⟨0,by omega,by omega,by omega⟩ (fU []) ?_
  rintro ⟨k,hk,h1,h2⟩;dsimp only;by_cases hlt:k<2
  · have hg:∃ z,(ints [x,y])[k]? = some [AV.i z]∧(k=0→z=x)∧(k=1→z=y):=by
      rcases (by omega:k=0∨k=1) with rfl | rfl
      · exact ⟨x,rfl,fun _=>rfl,by omega⟩
      · exact ⟨y,rfl,by omega,fun _=>rfl⟩
    obtain ⟨z,hg,hz1,hz2⟩:=hg;by_cases h0:z=0
    · (repeat' (first|refine wS ?_|refine wB ?_|refine wK ?_|(refine wC rfl (fun hb=>?_) (fun hb=>?_) <;> (((try simp only [nm] at hb);try (exfalso;omega))))|(refine rg 3 (vV (aK rfl rfl) ?_))|(refine rg 4 (vV (ix T rfl (by omega) (ints_len [x,y]) hg) (lW T rfl (aV ?_))))|(refine rg 5 (dR rfl (vV (dI rfl rfl) ?_)))|(refine rg 7 (vV (bP rfl rfl (by omega) (by omega)) (mV ?_)))|(refine nZ ?_)));all_goals first | (exfalso;omega) | exact ⟨⟨k+1,by omega,by omega,by omega⟩,by dsimp only;omega,fU []⟩
    · (repeat' (first|refine wS ?_|refine wB ?_|refine wK ?_|refine wR ?_|(refine wC rfl (fun hb=>?_) (fun hb=>?_) <;> (((try simp only [nm] at hb);try (exfalso;omega))))|(refine rg 3 (vV (aK rfl rfl) ?_))|(refine rg 4 (vV (ix T rfl (by omega) (ints_len [x,y]) hg) (lW T rfl (aV ?_))))|(refine rg 5 (dR rfl (vV (dI rfl rfl) ?_)))|(refine rg 6 (mW rfl (aV ?_)))|(refine nZ ?_)));all_goals first | (exfalso;omega) | exact cM (.inl rfl) rfl (by rw [show P6 x y=z by unfold P6;split <;> omega];rfl)
  · (repeat' (first|refine wS ?_|refine wR ?_|refine wE ?_|(refine wC rfl (fun hb=>?_) (fun hb=>?_) <;> (((try simp only [nm] at hb);try (exfalso;omega))))|(refine rg 3 (vV (aK rfl rfl) ?_))|(refine rg 8 (mW rfl (aV ?_)))|(refine nZ ?_)));all_goals first | (exfalso;omega) | exact cM (.inl rfl) rfl (by rw [show P6 x y=0 by unfold P6;split <;> omega];rfl)
theorem yF9 {a b:List Int}{k:Nat}(h1:k<a.length) (h2:k<b.length):cL (a.drop k) (b.drop k)=P6 (cI a[k] b[k]) (cL (a.drop (k+1)) (b.drop (k+1))):=by
  rw [bC h1,bC h2];rfl
theorem zO9 {a b:List Int}{k:Nat}(h1:k<a.length) (h2:k=b.length):cL (a.drop k) (b.drop k)=1:=by
  rw [bC h1,dC (l:=b) (by omega)];rfl
theorem zO8 {a b:List Int}{k:Nat}(h1:k=a.length) (h2:k<b.length):cL (a.drop k) (b.drop k) = -1:=by
  rw [dC (l:=a) (by omega),bC h2];rfl
theorem zO7 {a b:List Int}{k:Nat}(h1:k=a.length) (h2:k=b.length):cL (a.drop k) (b.drop k)=0:=by
  rw [dC (l:=a) (by omega),dC (l:=b) (by omega)];rfl
theorem WZ (b:Int):P6 0 b=b:=rfl
theorem ME {a b:Int}(h:¬ a=0):P6 a b=a:=by unfold P6;rw [if_neg h]
theorem UC (a b:List Int) (ha:a.length≤9223372036854775807) (hb:b.length≤9223372036854775807):aP Tryz.prog 103 [.rowE (ints a) 1,.rowE (ints b) 1] [] (.i (cL a b)) []:=by
  have hla:(ints a).length=a.length:=by simp
  have hlb:(ints b).length=b.length:=by simp
  refine bL T Tryz.func103 rfl rfl rfl rfl ?_
  (repeat' (first|refine wS ?_|refine wB ?_|(refine rg 0 (aV ?_))|(refine rg 1 (mW rfl (qW T rfl (mV ?_))))|refine nZ ?_));refine cX (X:={k:Nat // k≤a.length∧k≤b.length∧cL a b=cL (a.drop k) (b.drop k)}) (fun k=>[(0,.rowE (ints a) 1),(1,.rowE (ints b) 1),(9,.rowE (ints a) 1),(10,.i (ints a).length),(11,.i k.1)]) (fun _=>[]) (fun k=>a.length-k.1) ⟨0,by omega,by omega,rfl⟩ (fU []) ?_
  rintro ⟨k,hk,hkb,he⟩;dsimp only;by_cases h1:k<a.length
  · have g1:=iQ h1;by_cases h2:k<b.length
    · have g2:=iQ h2;have e1:=yF9 h1 h2;have hc:=EE a[k] b[k];generalize a[k]=x at *;generalize b[k]=y at *;by_cases h0:cI x y=0
      · rw [h0] at hc e1;rw [WZ] at e1
        (repeat' (first|refine wS ?_|refine wB ?_|refine wK ?_|refine wU ?_|(refine wC rfl ?_ ?_<;>(intro hb;(try simp only [nm] at hb);try (exfalso;omega)))|(refine rg 2 (vV (aK rfl rfl) ?_))|(refine rg 3 (mW rfl (vV (ix T rfl (by omega) (ints_len a) g1) (lW T rfl (lO ?_)))))|(refine rg 4 (dR rfl (qW T rfl (vV (fM rfl rfl) ?_))))|(refine rg 6 (dR rfl (vV (ix T rfl (by omega) (ints_len b) g2) (lW T rfl (aV ?_)))))|(refine rg 7 (dR rfl (vV (kC (hc)) (aV ?_))))|(refine rg 8 (mW rfl (vV (dI rfl rfl) ?_)))|(refine rg 10 (vV (bP rfl rfl (by omega) (by omega)) (mV ?_)))|refine nZ ?_));all_goals first | (exfalso;omega) | exact ⟨⟨k+1,by omega,by omega,he.trans e1⟩,by dsimp only;omega,fU []⟩
      · rw [ME h0] at e1;generalize cI x y=q at *
        (repeat' (first|refine wS ?_|refine wB ?_|refine wK ?_|refine wR ?_|(refine wC rfl ?_ ?_<;>(intro hb;(try simp only [nm] at hb);try (exfalso;omega)))|(refine rg 2 (vV (aK rfl rfl) ?_))|(refine rg 3 (mW rfl (vV (ix T rfl (by omega) (ints_len a) g1) (lW T rfl (lO ?_)))))|(refine rg 4 (dR rfl (qW T rfl (vV (fM rfl rfl) ?_))))|(refine rg 6 (dR rfl (vV (ix T rfl (by omega) (ints_len b) g2) (lW T rfl (aV ?_)))))|(refine rg 7 (dR rfl (vV (kC (hc)) (aV ?_))))|(refine rg 8 (mW rfl (vV (dI rfl rfl) ?_)))|(refine rg 9 (mW rfl (aV ?_)))|refine nZ ?_));all_goals first | (exfalso;omega) | exact cM (.inl rfl) rfl (by rw [he,e1];rfl)
    · have e1:=zO9 h1 (show k=b.length by omega)
      (repeat' (first|refine wS ?_|refine wB ?_|refine wK ?_|refine wR ?_|(refine wC rfl ?_ ?_<;>(intro hb;(try simp only [nm] at hb);try (exfalso;omega)))|(refine rg 2 (vV (aK rfl rfl) ?_))|(refine rg 3 (mW rfl (vV (ix T rfl (by omega) (ints_len a) g1) (lW T rfl (lO ?_)))))|(refine rg 4 (dR rfl (qW T rfl (vV (fM rfl rfl) ?_))))|(refine rg 5 (aV ?_))|refine nZ ?_));all_goals first | (exfalso;omega) | exact cM (.inl rfl) rfl (by rw [he,e1];rfl)
  · by_cases h2:k<b.length
    · have e1:=zO8 (show k=a.length by omega) h2
      (repeat' (first|refine wS ?_|refine wR ?_|refine wE ?_|(refine wC rfl ?_ ?_<;>(intro hb;(try simp only [nm] at hb);try (exfalso;omega)))|(refine rg 2 (vV (aK rfl rfl) ?_))|(refine rg 11 (mW rfl (qW T rfl (mW rfl (qW T rfl (vV (aK rfl rfl) ?_))))))|(refine rg 12 (aV ?_))|refine nZ ?_));all_goals first | (exfalso;omega) | exact cM (.inl rfl) rfl (by rw [he,e1];rfl)
    · have e1:=zO7 (show k=a.length by omega) (show k=b.length by omega)
      (repeat' (first|refine wS ?_|refine wK ?_|refine wR ?_|refine wE ?_|(refine wC rfl ?_ ?_<;>(intro hb;(try simp only [nm] at hb);try (exfalso;omega)))|(refine rg 2 (vV (aK rfl rfl) ?_))|(refine rg 11 (mW rfl (qW T rfl (mW rfl (qW T rfl (vV (aK rfl rfl) ?_))))))|(refine rg 13 (aV ?_))|refine nZ ?_));all_goals first | (exfalso;omega) | exact cM (.inl rfl) rfl (by rw [he,e1];rfl)
theorem lB (l:List SP):∀ e,e∈fI l→e.length=2:=by intro e he;obtain ⟨n,_,rfl⟩:=bB.1 he;rfl
theorem CP {l:List SP}{k:Nat}(h:k<l.length):(fI l)[k]? = some [AV.i l[k].1,AV.i l[k].2]:=by simp [h]
theorem WY (x y:SP):aP Tryz.prog 105 [mX x.1 x.2,mX y.1 y.2] [] (.i (cS x y)) []:=by
  have h1:=EE x.1 y.1;have h2:=EE x.2 y.2;have h3:=yD5 (cI x.1 y.1) (cI x.2 y.2);refine bL T Tryz.func105 rfl rfl rfl rfl ?_
  (repeat' (first|refine wS ?_|refine wR ?_|(refine rg 0 (bS (bZ rfl rfl) rfl (bS (bZ rfl rfl) rfl (aV ?_))))|(refine bO (id:=1) 17 [[],[0],[],[2],rN 4,[],[5],[],[7],rN 9,rN 10,rN 11] (rM 5 12) [[],[],[5,6],[5,6],[],rM 5 5,rM 5 5,rM 5 7,rM 5 7,[],[],[]] cK rfl (by decide +kernel) (dP T rfl (dO T rfl (dP T rfl (dO T rfl (dV rfl (kC (h1)) (dP T rfl (dO T rfl (dP T rfl (dL T ?_)))))))));refine dV rfl (kC (h2)) (uL rfl rfl rfl (by exact bF T rfl rfl (by decide) (by decide) rfl rfl rfl) rfl ?_);refine dV rfl (by exact eC rfl rfl (h3) (by ((repeat (first|exact .nil|exact .v _|refine .cons ?_ ?_|refine .sl rfl (by simp) ?_));done)) rfl rfl) ?_;(all_goals (refine dE ?_;refine aV ?_)))|refine nZ ?_));all_goals first | (exfalso;omega) | exact rQ
theorem yG0 {a b:List SP}{k:Nat}(h1:k<a.length) (h2:k<b.length):cB (a.drop k) (b.drop k)=P6 (cS a[k] b[k]) (cB (a.drop (k+1)) (b.drop (k+1))):=by
  rw [bC h1,bC h2];rfl
theorem zP2 {a b:List SP}{k:Nat}(h1:k<a.length) (h2:k=b.length):cB (a.drop k) (b.drop k)=1:=by
  rw [bC h1,dC (l:=b) (by omega)];rfl
theorem zP1 {a b:List SP}{k:Nat}(h1:k=a.length) (h2:k<b.length):cB (a.drop k) (b.drop k) = -1:=by
  rw [dC (l:=a) (by omega),bC h2];rfl
theorem zP0 {a b:List SP}{k:Nat}(h1:k=a.length) (h2:k=b.length):cB (a.drop k) (b.drop k)=0:=by
  rw [dC (l:=a) (by omega),dC (l:=b) (by omega)];rfl
abbrev yD8:AV:=.clo (.func 105) [] []
theorem MX (a b:List SP) (ha:a.length≤9223372036854775807) (hb:b.length≤9223372036854775807):aP Tryz.prog 104 [.rowE (fI a) 2,.rowE (fI b) 2,yD8] [] (.i (cB a b)) []:=by
  have hla:(fI a).length=a.length:=by simp
  have hlb:(fI b).length=b.length:=by simp
  refine bL T Tryz.func104 rfl rfl rfl rfl ?_
  (repeat' (first|refine wS ?_|refine wB ?_|(refine rg 0 (aV ?_))|(refine rg 1 (mW rfl (qW T rfl (mV ?_))))|refine nZ ?_));refine cX (X:={k:Nat // k≤a.length∧k≤b.length∧cB a b=cB (a.drop k) (b.drop k)}) (fun k=>[(0,.rowE (fI a) 2),(1,.rowE (fI b) 2),(2,yD8),(11,.rowE (fI a) 2),(12,.i (fI a).length),(13,.i k.1)]) (fun _=>[]) (fun k=>a.length-k.1) ⟨0,by omega,by omega,rfl⟩ (fU []) ?_
  rintro ⟨k,hk,hkb,he⟩;dsimp only;by_cases h1:k<a.length
  · have g1:=CP h1;by_cases h2:k<b.length
    · have g2:=CP h2;have e1:=yG0 h1 h2;have hc:=WY a[k] b[k];generalize a[k]=x at *;generalize b[k]=y at *;by_cases h0:cS x y=0
      · rw [h0] at hc e1;rw [WZ] at e1
        (repeat' (first|refine wS ?_|refine wB ?_|refine wK ?_|refine wU ?_|(refine wC rfl ?_ ?_<;>(intro hb;(try simp only [nm] at hb);try (exfalso;omega)))|(refine rg 2 (vV (aK rfl rfl) ?_))|(refine rg 3 (mW rfl (vV (ix T rfl (by omega) (lB a) g1) (lW T rfl (bS (bM T rfl) rfl (aW rfl (aU T rfl rfl rfl rfl rfl rfl (by decide) rfl ?_)))))))|(refine rg 4 (dR rfl (qW T rfl (vV (fM rfl rfl) ?_))))|(refine rg 6 (dR rfl (vV (ix T rfl (by omega) (lB b) g2) (lW T rfl (bS (bM T rfl) rfl (aU T rfl rfl rfl rfl rfl rfl (by decide) rfl ?_))))))|(refine rg 7 (mW rfl (lW T rfl (lW T rfl (vV (kC (hc)) (aV ?_))))))|(refine rg 8 (mW rfl (vV (dI rfl rfl) ?_)))|(refine rg 10 (vV (bP rfl rfl (by omega) (by omega)) (mV ?_)))|refine nZ ?_));all_goals first | (exfalso;omega) | exact ⟨⟨k+1,by omega,by omega,he.trans e1⟩,by dsimp only;omega,fU []⟩
      · rw [ME h0] at e1;generalize cS x y=q at *
        (repeat' (first|refine wS ?_|refine wB ?_|refine wK ?_|refine wR ?_|(refine wC rfl ?_ ?_<;>(intro hb;(try simp only [nm] at hb);try (exfalso;omega)))|(refine rg 2 (vV (aK rfl rfl) ?_))|(refine rg 3 (mW rfl (vV (ix T rfl (by omega) (lB a) g1) (lW T rfl (bS (bM T rfl) rfl (aW rfl (aU T rfl rfl rfl rfl rfl rfl (by decide) rfl ?_)))))))|(refine rg 4 (dR rfl (qW T rfl (vV (fM rfl rfl) ?_))))|(refine rg 6 (dR rfl (vV (ix T rfl (by omega) (lB b) g2) (lW T rfl (bS (bM T rfl) rfl (aU T rfl rfl rfl rfl rfl rfl (by decide) rfl ?_))))))|(refine rg 7 (mW rfl (lW T rfl (lW T rfl (vV (kC (hc)) (aV ?_))))))|(refine rg 8 (mW rfl (vV (dI rfl rfl) ?_)))|(refine rg 9 (mW rfl (aV ?_)))|refine nZ ?_));all_goals first | (exfalso;omega) | exact cM (.inl rfl) rfl (by rw [he,e1];rfl)
    · have e1:=zP2 h1 (show k=b.length by omega)
      (repeat' (first|refine wS ?_|refine wB ?_|refine wK ?_|refine wR ?_|(refine wC rfl ?_ ?_<;>(intro hb;(try simp only [nm] at hb);try (exfalso;omega)))|(refine rg 2 (vV (aK rfl rfl) ?_))|(refine rg 3 (mW rfl (vV (ix T rfl (by omega) (lB a) g1) (lW T rfl (bS (bM T rfl) rfl (aW rfl (aU T rfl rfl rfl rfl rfl rfl (by decide) rfl ?_)))))))|(refine rg 4 (dR rfl (qW T rfl (vV (fM rfl rfl) ?_))))|(refine rg 5 (aV ?_))|refine nZ ?_));all_goals first | (exfalso;omega) | exact cM (.inl rfl) rfl (by rw [he,e1];rfl)
  · by_cases h2:k<b.length
    · have e1:=zP1 (show k=a.length by omega) h2
      (repeat' (first|refine wS ?_|refine wR ?_|refine wE ?_|(refine wC rfl ?_ ?_<;>(intro hb;(try simp only [nm] at hb);try (exfalso;omega)))|(refine rg 2 (vV (aK rfl rfl) ?_))|(refine rg 11 (mW rfl (qW T rfl (mW rfl (qW T rfl (vV (aK rfl rfl) ?_))))))|(refine rg 12 (aV ?_))|refine nZ ?_));all_goals first | (exfalso;omega) | exact cM (.inl rfl) rfl (by rw [he,e1];rfl)
    · have e1:=zP0 (show k=a.length by omega) (show k=b.length by omega)
      (repeat' (first|refine wS ?_|refine wK ?_|refine wR ?_|refine wE ?_|(refine wC rfl ?_ ?_<;>(intro hb;(try simp only [nm] at hb);try (exfalso;omega)))|(refine rg 2 (vV (aK rfl rfl) ?_))|(refine rg 11 (mW rfl (qW T rfl (mW rfl (qW T rfl (vV (aK rfl rfl) ?_))))))|(refine rg 13 (aV ?_))|refine nZ ?_));all_goals first | (exfalso;omega) | exact cM (.inl rfl) rfl (by rw [he,e1];rfl)
abbrev CG (w:W):AV:=.agg (wA w)
def K0 (w:W):Prop:=w.1.length≤1000000∧w.2.2.length≤1000000
theorem OV (a b:W) (ha:K0 a) (hb:K0 b):aP Tryz.prog 71 [CG a,CG b] [] (.i (oR a b)) []:=by
  obtain ⟨p,m,c⟩:=a;obtain ⟨p',m',c'⟩:=b;unfold K0 at ha hb;dsimp only at ha hb;have h1:=UC p p' (by omega) (by omega)
  have h2:=MX c c' (by omega) (by omega)
  have e:oR (p,m,c) (p',m',c')=P6 (cL p p') (cB c c'):=rfl;rw [e];generalize cL p p'=x at *;generalize cB c c'=y at *;by_cases h0:x=0
  · subst h0;rw [WZ];refine bL T Tryz.func71 rfl rfl rfl rfl ?_
    (repeat' (first|refine wS ?_|refine wK ?_|refine wR ?_|refine wU ?_|(refine rg 0 (bS (bZ rfl rfl) rfl (bS (bZ rfl rfl) rfl (aV ?_))))|(refine rg 1 (fR T rfl (fR T rfl (vV (kC (h1)) (aV ?_)))))|(refine rg 2 (mW rfl (vV (dI rfl rfl) ?_)))|(refine rg 4 (fR T rfl (fR T rfl (vV (kC (h2)) (aV ?_)))))|refine nZ ?_));all_goals first | (exfalso;omega) | exact rQ
  · rw [ME h0];refine bL T Tryz.func71 rfl rfl rfl rfl ?_
    (repeat' (first|refine wS ?_|refine wR ?_|(refine wC rfl ?_ ?_<;>(intro hb;(try simp only [nm] at hb);try (exfalso;omega)))|(refine rg 0 (bS (bZ rfl rfl) rfl (bS (bZ rfl rfl) rfl (aV ?_))))|(refine rg 1 (fR T rfl (fR T rfl (vV (kC (h1)) (aV ?_)))))|(refine rg 2 (mW rfl (vV (dI rfl rfl) ?_)))|(refine rg 3 (mW rfl (aV ?_)))|refine nZ ?_));all_goals first | (exfalso;omega) | exact rQ
theorem wN (a b:W) (ha:K0 a) (hb:K0 b):aP Tryz.prog 69 [CG a,CG b] [] (.i (eR a b)) []:=by
  have h1:=OV a b ha hb;have h2:=EE a.2.1 b.2.1;have h3:=yD5 (oR a b) (cI a.2.1 b.2.1);refine bL T Tryz.func69 rfl rfl rfl rfl ?_
  (repeat' (first|refine wS ?_|refine wR ?_|(refine rg 0 (bS (bZ rfl rfl) rfl (bS (bZ rfl rfl) rfl (aV ?_))))|(refine bO (id:=1) 15 [[],[],[0,1],[],[3],[],[5],rN 7,rN 8,rN 9] (rM 5 10) [[],[5],[],[5,6,7],[5,6,7],rM 5 5,rM 5 5,[],[],[]] cK rfl (by decide +kernel) (dO T rfl (dO T rfl (dV rfl (kC (h1)) (dP T rfl (dO T rfl (dP T rfl (dO T rfl (dV rfl (kC (h2)) (uL rfl rfl rfl (by exact bF T rfl rfl (by decide) (by decide) rfl rfl rfl) rfl ?_)))))))));refine dV rfl (by exact eC rfl rfl (h3) (by ((repeat (first|exact .nil|exact .v _|refine .cons ?_ ?_|refine .sl rfl (by simp) ?_));done)) rfl rfl) ?_;(all_goals (refine dE ?_;refine aV ?_)))|refine nZ ?_));all_goals first | (exfalso;omega) | exact rQ
theorem Y6 (a b:W) (ha:K0 a) (hb:K0 b):aP Tryz.prog 74 [CG a,CG b] [] (.b (D4 a b)) []:=by
  have h1:=OV a b ha hb;refine bL T Tryz.func74 rfl rfl rfl rfl ?_
  (repeat' (first|refine wS ?_|refine wR ?_|(refine rg 0 (bS (bZ rfl rfl) rfl (bS (bZ rfl rfl) rfl (aV ?_))))|(refine rg 1 (lW T rfl (lW T rfl (vV (kC (h1)) (vV (bW rfl rfl) (aV ?_))))))|refine nZ ?_));all_goals first | (exfalso;omega) | exact rQ
end Go.Proofs.YtojgimibalokkaaGreat
namespace Go.Ld
open Go.Ab Go.Proofs.YtojgimibalokkaaGreat
theorem nH (l:List W):∀ e,e∈wsA l→e.length=3:=by intro e he;obtain ⟨n,_,rfl⟩:=bB.1 he;rfl
theorem eZ (l:List W):(wsA l).length=l.length:=aX _
theorem pF {L:List W}{j:Int}{i:Nat}{x:W}(h:L[i]? = some x) (e:j=i):(wsA L)[0+j.toNat]? = some (wA x):=by
  subst e;simp [h]
theorem vZ {L:List W}{j:Int}{i:Nat}{x:W}(e:j=i):(wsA L).set (0+j.toNat) (wA x)=wsA (L.set i x):=by
  subst e;simp [wsA,rH]
theorem nU {α:Type}(A B:List α) (x:α){n:Nat}(h:n=A.length):(A++x::B)[n]? = some x:=by subst h;simp
theorem oB {α:Type}(A B:List α) (x y:α){n:Nat}(h:n=A.length):(A++x::B).set n y=A++y::B:=by subst h;simp
abbrev Up (l:List W):Prop:=l.Pairwise (fun a b=>eR a b≤0)
theorem T2 {l:List W}(h:Up l):eH eR l=l:=(E6 jD (.refl _) h).symm
theorem G7 {l m:List W}(hp:m.Perm l) (h:Up m):eH eR l=m:=(E6 jD hp h).symm
theorem B5 {a b:W}(h:eR a b<0):eR a b≤0:=by omega
theorem LM {S1 S2:List W}{x:W}(h:Up (S1++S2)) (h1:∀ y,y∈S1→eR y x≤0) (h2:∀ y,y∈S2→eR x y≤0):Up (S1++x::S2):=by
  obtain ⟨a,b,c⟩:=eW.1 h;refine eW.2 ⟨a,fA.2 ⟨h2,b⟩,fun p hp q hq=>?_⟩
  rcases bT.1 hq with rfl | hq
  · exact h1 p hp
  · exact c p hp q hq
theorem zT6 {A B:List W}(h1:Up A) (h2:Up B) (h3:∀ a b,a∈A→b∈B→eR a b≤0):Up (A++B):=eW.2 ⟨h1,h2,fun a ha b hb=>h3 a b ha hb⟩
theorem NZ {A:List W}{y:W}(h:Up (A++[y])):∀ z,z∈A++[y]→eR z y≤0:=by
  intro z hz;obtain ⟨a,b,c⟩:=eW.1 h;rcases bG.1 hz with hz | hz
  · exact c z hz y (by simp)
  · rw [bH.1 hz,jD.rfl'];exact fK _
theorem zE2 {B:List W}{y:W}(h:Up (y::B)):∀ z,z∈y::B→eR y z≤0:=by
  intro z hz;rcases bT.1 hz with rfl | hz
  · rw [jD.rfl'];exact fK _
  · exact (fA.1 h).1 z hz
theorem yG6 {a b:W}(h:¬ eR a b<0):eR b a≤0:=by have:=jD.neg a b;omega
def UP (l:List W) (a b:Nat):List W:=l.take a++(eH eR ((l.drop a).take (b-a))++l.drop b)
theorem iT {l:List W}:(eH eR l).length=l.length:=(dZ eR l).length_eq
theorem VR {l:List W}{a:Nat}(h:a≤l.length):UP l a a=l:=by unfold UP;simp [eH]
theorem zF4 {l:List W}{a:Nat}(h:a<l.length):UP l a (a+1)=l:=by
  unfold UP;rw [show a+1-a=1 by omega,bC h]
  simp only [oM,lM,eH,BT];rw [List.singleton_append,← bC h,bX]
structure zS4 (l:List W) (a i:Nat) (x:W) (q:List W × List W):Prop where
  eq:q.1++q.2=eH eR ((l.drop a).take (i-a))
  gt:∀ y,y∈q.2→eR x y<0
def vE (l:List W) (a i:Nat) (x:W) (q:List W × List W):List W:=(l.take a++q.1)++x::(q.2++l.drop (i+1))
theorem TF {l:List W}{a i:Nat}{x:W}(h1:a<i) (h2:i<l.length) (hx:l[i]? = some x):zS4 l a i x (eH eR ((l.drop a).take (i-a)),[])∧UP l a i=vE l a i x (eH eR ((l.drop a).take (i-a)),[]):=by
  refine ⟨⟨by simp,fun y hy=>by cases hy⟩,?_⟩
  unfold UP vE;have:l.drop i=x::l.drop (i+1):=by
    rw [aA h2] at hx;rw [bC h2];cases hx;rfl
  simp [this]
theorem PK {l:List W}{a i:Nat}{x:W}{q:List W × List W}(h:zS4 l a i x q) (h1:a<i) (h2:i<l.length):q.1.length+q.2.length=i-a:=by
  have:=congrArg List.length h.eq;simp only [aF,iT,bE,dK] at this;omega
theorem YB {l:List W}{a i:Nat}{x:W}{q:List W × List W}(h:zS4 l a i x q) (h1:a<i) (h2:i<l.length):(vE l a i x q).length=l.length:=by
  have:=PK h h1 h2;unfold vE;simp only [aF,List.length_cons,bE,dK];omega
theorem XY {l:List W}{a i:Nat}{x:W}{q:List W × List W}(h:zS4 l a i x q) (h1:a<i) (h2:i<l.length) (hx:l[i]? = some x) (hs:∀ y,y∈q.1→eR y x≤0):vE l a i x q=UP l a (i+1):=by
  unfold vE UP;have e:(l.drop a).take (i+1-a)=(l.drop a).take (i-a)++[x]:=by
    rw [show i+1-a=(i-a)+1 by omega,zC6]
    rw [eE,show a+(i-a)=i by omega,hx];rfl
  rw [e];have hp:(q.1++x::q.2).Perm ((l.drop a).take (i-a)++[x]):=by
    refine List.perm_middle.trans ?_;rw [h.eq];exact ((dZ eR _).cons x).trans (K5 _ _).symm
  have hu:Up (q.1++x::q.2):=LM (by rw [h.eq];exact lG jD _) hs (fun y hy=>B5 (h.gt y hy))
  rw [G7 hp hu];simp
theorem zK9 {l:List W}{a i:Nat}{x y:W}{S:List W}{q:List W × List W}(h:zS4 l a i x q) (e:q.1=S++[y]) (hc:¬ eR x y<0):∀ z,z∈q.1→eR z x≤0:=by
  have hu:Up (q.1++q.2):=by rw [h.eq];exact lG jD _
  have hu1:Up q.1:=(eW.1 hu).1;rw [e] at hu1;intro z hz;rw [e] at hz;exact jD.le_tr (NZ hu1 z hz) (yG6 hc)
theorem XZ {l:List W}{a i:Nat}{x y:W}{S:List W}{q:List W × List W}(h:zS4 l a i x q) (e:q.1=S++[y]) (hc:eR x y<0):zS4 l a i x (S,y::q.2):=by
  refine ⟨?_,fun z hz=>?_⟩
  · rw [← h.eq,e];simp
  · rcases bT.1 hz with rfl | hz
    · exact hc
    · exact h.gt z hz
end Go.Ld
