import Derived.Test.YtnmhohfmonlfoaaGreatDoorRows
import Derived.Test.YtnmhohfmonlfoaaGreatDoorK8
import Derived.Test.YtnmhohfmonlfoaaGreatDoorCk11
import Derived.Test.YtnmhohfmonlfoaaGreatDoorFmt2
import Derived.Test.YtnmhohfmonlfoaaGreatDoorK10
import Derived.Test.YtnmhohfmonlfoaaGreatDoorK7
import Derived.Laws.Strings
namespace Go.Proofs.YtnmhohfmonlfoaaGreatDoor
open Go.EX Go.Shelf
def gids : List Nat := [100000, 100001, 703, 479, 481, 484, 482, 487, 489, 377, 627, 488, 150, 490, 486, 154, 160, 636, 630, 635, 159, 634, 158, 631, 155, 162, 637, 379, 163, 156, 157, 638, 632, 633, 153, 629, 336, 151, 628, 14, 12, 1, 361, 491, 373, 640, 152, 562, 557, 161, 561, 166, 355, 492, 334, 164, 167, 560, 558, 504, 165, 643, 206, 578, 500, 64, 10, 25, 29, 33, 34, 28, 24, 18, 17, 23, 22, 21, 32, 35, 30, 26, 20, 19, 27, 16, 31, 45, 49, 53, 54, 48, 44, 38, 37, 43, 42, 41, 52, 55, 50, 46, 40, 39, 47, 36, 51, 75, 79, 83, 84, 78, 74, 68, 67, 73, 72, 71, 82, 85, 80, 76, 70, 69, 77, 66, 81, 339, 372, 749, 641, 646, 642, 639, 352, 330, 100, 559, 743, 740, 742, 741, 219, 207, 212, 580, 210, 588, 217, 208, 214, 211, 215, 510, 509, 508, 9, 62, 411, 415, 419, 420, 414, 410, 404, 403, 409, 408, 407, 418, 421, 416, 412, 406, 405, 413, 402, 417, 391, 395, 399, 400, 394, 390, 384, 383, 389, 388, 387, 398, 401, 396, 392, 386, 385, 393, 382, 397, 338, 759, 656, 745, 654, 647, 652, 351, 329, 502, 98, 501, 99, 218, 216, 579, 213, 648, 209, 581, 506, 507, 422, 380, 651, 755, 655, 653, 650, 357, 582, 589, 246, 244, 670, 503, 786, 583, 584, 585, 586, 587, 673, 785, 245, 669, 709, 674, 708, 100247, 719, 718, 713, 714, 716, 732, 712, 715, 733, 734, 735, 100259, 100260, 100261, 100262, 100263, 100264, 100265, 100266, 100267, 100268, 100269, 100270, 100271, 100272, 100273, 100274, 100275, 100276, 100277, 100278, 100279, 100280, 704]
def num (f : FuncId) : Nat := (gids[f]?).getD (100000 + f)
theorem ok5 : FunOK Tryz.prog num 5 x484 := .of Tryz.func5 (by kernel_rfl) (by kernel_rfl) (by kernel_rfl) (by kernel_rfl) (by kernel_rfl)
theorem ok7 : FunOK Tryz.prog num 7 x487 := .of Tryz.func7 (by kernel_rfl) (by kernel_rfl) (by kernel_rfl) (by kernel_rfl) (by kernel_rfl)
theorem ok9 : FunOK Tryz.prog num 9 x377 := .of Tryz.func9 (by kernel_rfl) (by kernel_rfl) (by kernel_rfl) (by kernel_rfl) (by kernel_rfl)
theorem ok11 : FunOK Tryz.prog num 11 x488 := .of Tryz.func11 (by kernel_rfl) (by kernel_rfl) (by kernel_rfl) (by kernel_rfl) (by kernel_rfl)
theorem ok13 : FunOK Tryz.prog num 13 x490 := .of Tryz.func13 (by kernel_rfl) (by kernel_rfl) (by kernel_rfl) (by kernel_rfl) (by kernel_rfl)
theorem ok19 : FunOK Tryz.prog num 19 x635 := .of Tryz.func19 (by kernel_rfl) (by kernel_rfl) (by kernel_rfl) (by kernel_rfl) (by kernel_rfl)
theorem ok20 : FunOK Tryz.prog num 20 x159 := .of Tryz.func20 (by kernel_rfl) (by kernel_rfl) (by kernel_rfl) (by kernel_rfl) (by kernel_rfl)
theorem ok21 : FunOK Tryz.prog num 21 x634 := .of Tryz.func21 (by kernel_rfl) (by kernel_rfl) (by kernel_rfl) (by kernel_rfl) (by kernel_rfl)
theorem ok22 : FunOK Tryz.prog num 22 x158 := .of Tryz.func22 (by kernel_rfl) (by kernel_rfl) (by kernel_rfl) (by kernel_rfl) (by kernel_rfl)
theorem ok23 : FunOK Tryz.prog num 23 x631 := .of Tryz.func23 (by kernel_rfl) (by kernel_rfl) (by kernel_rfl) (by kernel_rfl) (by kernel_rfl)
theorem ok24 : FunOK Tryz.prog num 24 x155 := .of Tryz.func24 (by kernel_rfl) (by kernel_rfl) (by kernel_rfl) (by kernel_rfl) (by kernel_rfl)
theorem ok25 : FunOK Tryz.prog num 25 x162 := .of Tryz.func25 (by kernel_rfl) (by kernel_rfl) (by kernel_rfl) (by kernel_rfl) (by kernel_rfl)
theorem ok26 : FunOK Tryz.prog num 26 x637 := .of Tryz.func26 (by kernel_rfl) (by kernel_rfl) (by kernel_rfl) (by kernel_rfl) (by kernel_rfl)
theorem ok27 : FunOK Tryz.prog num 27 x379 := .of Tryz.func27 (by kernel_rfl) (by kernel_rfl) (by kernel_rfl) (by kernel_rfl) (by kernel_rfl)
theorem ok28 : FunOK Tryz.prog num 28 x163 := .of Tryz.func28 (by kernel_rfl) (by kernel_rfl) (by kernel_rfl) (by kernel_rfl) (by kernel_rfl)
theorem ok36 : FunOK Tryz.prog num 36 x336 := .of Tryz.func36 (by kernel_rfl) (by kernel_rfl) (by kernel_rfl) (by kernel_rfl) (by kernel_rfl)
theorem ok42 : FunOK Tryz.prog num 42 x361 := .of Tryz.func42 (by kernel_rfl) (by kernel_rfl) (by kernel_rfl) (by kernel_rfl) (by kernel_rfl)
theorem ok44 : FunOK Tryz.prog num 44 x373 := .of Tryz.func44 (by kernel_rfl) (by kernel_rfl) (by kernel_rfl) (by kernel_rfl) (by kernel_rfl)
theorem ok45 : FunOK Tryz.prog num 45 x640 := .of Tryz.func45 (by kernel_rfl) (by kernel_rfl) (by kernel_rfl) (by kernel_rfl) (by kernel_rfl)
theorem ok46 : FunOK Tryz.prog num 46 x152 := .of Tryz.func46 (by kernel_rfl) (by kernel_rfl) (by kernel_rfl) (by kernel_rfl) (by kernel_rfl)
theorem ok47 : FunOK Tryz.prog num 47 x562 := .of Tryz.func47 (by kernel_rfl) (by kernel_rfl) (by kernel_rfl) (by kernel_rfl) (by kernel_rfl)
theorem ok48 : FunOK Tryz.prog num 48 x557 := .of Tryz.func48 (by kernel_rfl) (by kernel_rfl) (by kernel_rfl) (by kernel_rfl) (by kernel_rfl)
theorem ok51 : FunOK Tryz.prog num 51 x166 := .of Tryz.func51 (by kernel_rfl) (by kernel_rfl) (by kernel_rfl) (by kernel_rfl) (by kernel_rfl)
theorem ok52 : FunOK Tryz.prog num 52 x355 := .of Tryz.func52 (by kernel_rfl) (by kernel_rfl) (by kernel_rfl) (by kernel_rfl) (by kernel_rfl)
theorem ok53 : FunOK Tryz.prog num 53 x492 := .of Tryz.func53 (by kernel_rfl) (by kernel_rfl) (by kernel_rfl) (by kernel_rfl) (by kernel_rfl)
theorem ok54 : FunOK Tryz.prog num 54 x334 := .of Tryz.func54 (by kernel_rfl) (by kernel_rfl) (by kernel_rfl) (by kernel_rfl) (by kernel_rfl)
theorem ok58 : FunOK Tryz.prog num 58 x558 := .of Tryz.func58 (by kernel_rfl) (by kernel_rfl) (by kernel_rfl) (by kernel_rfl) (by kernel_rfl)
theorem ok59 : FunOK Tryz.prog num 59 x504 := .of Tryz.func59 (by kernel_rfl) (by kernel_rfl) (by kernel_rfl) (by kernel_rfl) (by kernel_rfl)
theorem ok60 : FunOK Tryz.prog num 60 x165 := .of Tryz.func60 (by kernel_rfl) (by kernel_rfl) (by kernel_rfl) (by kernel_rfl) (by kernel_rfl)
theorem ok61 : FunOK Tryz.prog num 61 x643V := .of Tryz.func61 (by kernel_rfl) (by kernel_rfl) (by kernel_rfl) (by kernel_rfl) (by kernel_rfl)
theorem ok62 : FunOK Tryz.prog num 62 x206 := .of Tryz.func62 (by kernel_rfl) (by kernel_rfl) (by kernel_rfl) (by kernel_rfl) (by kernel_rfl)
theorem ok63 : FunOK Tryz.prog num 63 x578 := .of Tryz.func63 (by kernel_rfl) (by kernel_rfl) (by kernel_rfl) (by kernel_rfl) (by kernel_rfl)
theorem ok64 : FunOK Tryz.prog num 64 x500 := .of Tryz.func64 (by kernel_rfl) (by kernel_rfl) (by kernel_rfl) (by kernel_rfl) (by kernel_rfl)
theorem ok127 : FunOK Tryz.prog num 127 x339 := .of Tryz.func127 (by kernel_rfl) (by kernel_rfl) (by kernel_rfl) (by kernel_rfl) (by kernel_rfl)
theorem ok128 : FunOK Tryz.prog num 128 x372 := .of Tryz.func128 (by kernel_rfl) (by kernel_rfl) (by kernel_rfl) (by kernel_rfl) (by kernel_rfl)
theorem ok129 : FunOK Tryz.prog num 129 x749 := .of Tryz.func129 (by kernel_rfl) (by kernel_rfl) (by kernel_rfl) (by kernel_rfl) (by kernel_rfl)
theorem ok130 : FunOK Tryz.prog num 130 x641 := .of Tryz.func130 (by kernel_rfl) (by kernel_rfl) (by kernel_rfl) (by kernel_rfl) (by kernel_rfl)
theorem ok131 : FunOK Tryz.prog num 131 x646 := .of Tryz.func131 (by kernel_rfl) (by kernel_rfl) (by kernel_rfl) (by kernel_rfl) (by kernel_rfl)
theorem ok132 : FunOK Tryz.prog num 132 x642 := .of Tryz.func132 (by kernel_rfl) (by kernel_rfl) (by kernel_rfl) (by kernel_rfl) (by kernel_rfl)
theorem ok133 : FunOK Tryz.prog num 133 x639 := .of Tryz.func133 (by kernel_rfl) (by kernel_rfl) (by kernel_rfl) (by kernel_rfl) (by kernel_rfl)
theorem ok134 : FunOK Tryz.prog num 134 x352 := .of Tryz.func134 (by kernel_rfl) (by kernel_rfl) (by kernel_rfl) (by kernel_rfl) (by kernel_rfl)
theorem ok135 : FunOK Tryz.prog num 135 x330 := .of Tryz.func135 (by kernel_rfl) (by kernel_rfl) (by kernel_rfl) (by kernel_rfl) (by kernel_rfl)
theorem ok136 : FunOK Tryz.prog num 136 x100 := .of Tryz.func136 (by kernel_rfl) (by kernel_rfl) (by kernel_rfl) (by kernel_rfl) (by kernel_rfl)
theorem ok137 : FunOK Tryz.prog num 137 x559 := .of Tryz.func137 (by kernel_rfl) (by kernel_rfl) (by kernel_rfl) (by kernel_rfl) (by kernel_rfl)
theorem ok138 : FunOK Tryz.prog num 138 x743 := .of Tryz.func138 (by kernel_rfl) (by kernel_rfl) (by kernel_rfl) (by kernel_rfl) (by kernel_rfl)
theorem ok139 : FunOK Tryz.prog num 139 x740 := .of Tryz.func139 (by kernel_rfl) (by kernel_rfl) (by kernel_rfl) (by kernel_rfl) (by kernel_rfl)
theorem ok140 : FunOK Tryz.prog num 140 x742 := .of Tryz.func140 (by kernel_rfl) (by kernel_rfl) (by kernel_rfl) (by kernel_rfl) (by kernel_rfl)
theorem ok141 : FunOK Tryz.prog num 141 x741 := .of Tryz.func141 (by kernel_rfl) (by kernel_rfl) (by kernel_rfl) (by kernel_rfl) (by kernel_rfl)
theorem ok142 : FunOK Tryz.prog num 142 x219 := .of Tryz.func142 (by kernel_rfl) (by kernel_rfl) (by kernel_rfl) (by kernel_rfl) (by kernel_rfl)
theorem ok143 : FunOK Tryz.prog num 143 x207 := .of Tryz.func143 (by kernel_rfl) (by kernel_rfl) (by kernel_rfl) (by kernel_rfl) (by kernel_rfl)
theorem ok144 : FunOK Tryz.prog num 144 x212 := .of Tryz.func144 (by kernel_rfl) (by kernel_rfl) (by kernel_rfl) (by kernel_rfl) (by kernel_rfl)
theorem ok145 : FunOK Tryz.prog num 145 x580 := .of Tryz.func145 (by kernel_rfl) (by kernel_rfl) (by kernel_rfl) (by kernel_rfl) (by kernel_rfl)
theorem ok146 : FunOK Tryz.prog num 146 x210 := .of Tryz.func146 (by kernel_rfl) (by kernel_rfl) (by kernel_rfl) (by kernel_rfl) (by kernel_rfl)
theorem ok147 : FunOK Tryz.prog num 147 x588 := .of Tryz.func147 (by kernel_rfl) (by kernel_rfl) (by kernel_rfl) (by kernel_rfl) (by kernel_rfl)
theorem ok148 : FunOK Tryz.prog num 148 x217 := .of Tryz.func148 (by kernel_rfl) (by kernel_rfl) (by kernel_rfl) (by kernel_rfl) (by kernel_rfl)
theorem ok149 : FunOK Tryz.prog num 149 x208 := .of Tryz.func149 (by kernel_rfl) (by kernel_rfl) (by kernel_rfl) (by kernel_rfl) (by kernel_rfl)
theorem ok150 : FunOK Tryz.prog num 150 x214 := .of Tryz.func150 (by kernel_rfl) (by kernel_rfl) (by kernel_rfl) (by kernel_rfl) (by kernel_rfl)
theorem ok151 : FunOK Tryz.prog num 151 x211 := .of Tryz.func151 (by kernel_rfl) (by kernel_rfl) (by kernel_rfl) (by kernel_rfl) (by kernel_rfl)
theorem ok152 : FunOK Tryz.prog num 152 x215 := .of Tryz.func152 (by kernel_rfl) (by kernel_rfl) (by kernel_rfl) (by kernel_rfl) (by kernel_rfl)
theorem ok153 : FunOK Tryz.prog num 153 x510 := .of Tryz.func153 (by kernel_rfl) (by kernel_rfl) (by kernel_rfl) (by kernel_rfl) (by kernel_rfl)
theorem ok154 : FunOK Tryz.prog num 154 x509 := .of Tryz.func154 (by kernel_rfl) (by kernel_rfl) (by kernel_rfl) (by kernel_rfl) (by kernel_rfl)
theorem ok155 : FunOK Tryz.prog num 155 x508 := .of Tryz.func155 (by kernel_rfl) (by kernel_rfl) (by kernel_rfl) (by kernel_rfl) (by kernel_rfl)
theorem ok198 : FunOK Tryz.prog num 198 x338 := .of Tryz.func198 (by kernel_rfl) (by kernel_rfl) (by kernel_rfl) (by kernel_rfl) (by kernel_rfl)
theorem ok199 : FunOK Tryz.prog num 199 x759 := .of Tryz.func199 (by kernel_rfl) (by kernel_rfl) (by kernel_rfl) (by kernel_rfl) (by kernel_rfl)
theorem ok200 : FunOK Tryz.prog num 200 x656 := .of Tryz.func200 (by kernel_rfl) (by kernel_rfl) (by kernel_rfl) (by kernel_rfl) (by kernel_rfl)
theorem ok201 : FunOK Tryz.prog num 201 x745 := .of Tryz.func201 (by kernel_rfl) (by kernel_rfl) (by kernel_rfl) (by kernel_rfl) (by kernel_rfl)
theorem ok202 : FunOK Tryz.prog num 202 x654 := .of Tryz.func202 (by kernel_rfl) (by kernel_rfl) (by kernel_rfl) (by kernel_rfl) (by kernel_rfl)
theorem ok203 : FunOK Tryz.prog num 203 x647 := .of Tryz.func203 (by kernel_rfl) (by kernel_rfl) (by kernel_rfl) (by kernel_rfl) (by kernel_rfl)
theorem ok204 : FunOK Tryz.prog num 204 x652 := .of Tryz.func204 (by kernel_rfl) (by kernel_rfl) (by kernel_rfl) (by kernel_rfl) (by kernel_rfl)
theorem ok205 : FunOK Tryz.prog num 205 x351 := .of Tryz.func205 (by kernel_rfl) (by kernel_rfl) (by kernel_rfl) (by kernel_rfl) (by kernel_rfl)
theorem ok206 : FunOK Tryz.prog num 206 x329 := .of Tryz.func206 (by kernel_rfl) (by kernel_rfl) (by kernel_rfl) (by kernel_rfl) (by kernel_rfl)
theorem ok207 : FunOK Tryz.prog num 207 x502 := .of Tryz.func207 (by kernel_rfl) (by kernel_rfl) (by kernel_rfl) (by kernel_rfl) (by kernel_rfl)
theorem ok208 : FunOK Tryz.prog num 208 x98S := .of Tryz.func208 (by kernel_rfl) (by kernel_rfl) (by kernel_rfl) (by kernel_rfl) (by kernel_rfl)
theorem ok209 : FunOK Tryz.prog num 209 x501 := .of Tryz.func209 (by kernel_rfl) (by kernel_rfl) (by kernel_rfl) (by kernel_rfl) (by kernel_rfl)
theorem ok210 : FunOK Tryz.prog num 210 x99 := .of Tryz.func210 (by kernel_rfl) (by kernel_rfl) (by kernel_rfl) (by kernel_rfl) (by kernel_rfl)
theorem ok211 : FunOK Tryz.prog num 211 x218 := .of Tryz.func211 (by kernel_rfl) (by kernel_rfl) (by kernel_rfl) (by kernel_rfl) (by kernel_rfl)
theorem ok212 : FunOK Tryz.prog num 212 x216 := .of Tryz.func212 (by kernel_rfl) (by kernel_rfl) (by kernel_rfl) (by kernel_rfl) (by kernel_rfl)
theorem ok213 : FunOK Tryz.prog num 213 x579 := .of Tryz.func213 (by kernel_rfl) (by kernel_rfl) (by kernel_rfl) (by kernel_rfl) (by kernel_rfl)
theorem ok214 : FunOK Tryz.prog num 214 x213 := .of Tryz.func214 (by kernel_rfl) (by kernel_rfl) (by kernel_rfl) (by kernel_rfl) (by kernel_rfl)
theorem ok215 : FunOK Tryz.prog num 215 x648 := .of Tryz.func215 (by kernel_rfl) (by kernel_rfl) (by kernel_rfl) (by kernel_rfl) (by kernel_rfl)
theorem ok216 : FunOK Tryz.prog num 216 x209 := .of Tryz.func216 (by kernel_rfl) (by kernel_rfl) (by kernel_rfl) (by kernel_rfl) (by kernel_rfl)
theorem ok217 : FunOK Tryz.prog num 217 x581 := .of Tryz.func217 (by kernel_rfl) (by kernel_rfl) (by kernel_rfl) (by kernel_rfl) (by kernel_rfl)
theorem ok218 : FunOK Tryz.prog num 218 x506 := .of Tryz.func218 (by kernel_rfl) (by kernel_rfl) (by kernel_rfl) (by kernel_rfl) (by kernel_rfl)
theorem ok219 : FunOK Tryz.prog num 219 x507 := .of Tryz.func219 (by kernel_rfl) (by kernel_rfl) (by kernel_rfl) (by kernel_rfl) (by kernel_rfl)
theorem ok221 : FunOK Tryz.prog num 221 x380 := .of Tryz.func221 (by kernel_rfl) (by kernel_rfl) (by kernel_rfl) (by kernel_rfl) (by kernel_rfl)
theorem ok222 : FunOK Tryz.prog num 222 x651 := .of Tryz.func222 (by kernel_rfl) (by kernel_rfl) (by kernel_rfl) (by kernel_rfl) (by kernel_rfl)
theorem ok223 : FunOK Tryz.prog num 223 x755 := .of Tryz.func223 (by kernel_rfl) (by kernel_rfl) (by kernel_rfl) (by kernel_rfl) (by kernel_rfl)
theorem ok224 : FunOK Tryz.prog num 224 x655 := .of Tryz.func224 (by kernel_rfl) (by kernel_rfl) (by kernel_rfl) (by kernel_rfl) (by kernel_rfl)
theorem ok225 : FunOK Tryz.prog num 225 x653 := .of Tryz.func225 (by kernel_rfl) (by kernel_rfl) (by kernel_rfl) (by kernel_rfl) (by kernel_rfl)
theorem ok226 : FunOK Tryz.prog num 226 x650 := .of Tryz.func226 (by kernel_rfl) (by kernel_rfl) (by kernel_rfl) (by kernel_rfl) (by kernel_rfl)
theorem ok227 : FunOK Tryz.prog num 227 x357 := .of Tryz.func227 (by kernel_rfl) (by kernel_rfl) (by kernel_rfl) (by kernel_rfl) (by kernel_rfl)
theorem ok228 : FunOK Tryz.prog num 228 x582 := .of Tryz.func228 (by kernel_rfl) (by kernel_rfl) (by kernel_rfl) (by kernel_rfl) (by kernel_rfl)
theorem ok229 : FunOK Tryz.prog num 229 x589 := .of Tryz.func229 (by kernel_rfl) (by kernel_rfl) (by kernel_rfl) (by kernel_rfl) (by kernel_rfl)
theorem ok230 : FunOK Tryz.prog num 230 x246 := .of Tryz.func230 (by kernel_rfl) (by kernel_rfl) (by kernel_rfl) (by kernel_rfl) (by kernel_rfl)
theorem ok231 : FunOK Tryz.prog num 231 x244 := .of Tryz.func231 (by kernel_rfl) (by kernel_rfl) (by kernel_rfl) (by kernel_rfl) (by kernel_rfl)
theorem ok233 : FunOK Tryz.prog num 233 x503 := .of Tryz.func233 (by kernel_rfl) (by kernel_rfl) (by kernel_rfl) (by kernel_rfl) (by kernel_rfl)
theorem ok234 : FunOK Tryz.prog num 234 x786 := .of Tryz.func234 (by kernel_rfl) (by kernel_rfl) (by kernel_rfl) (by kernel_rfl) (by kernel_rfl)
theorem ok235 : FunOK Tryz.prog num 235 x583 := .of Tryz.func235 (by kernel_rfl) (by kernel_rfl) (by kernel_rfl) (by kernel_rfl) (by kernel_rfl)
theorem ok236 : FunOK Tryz.prog num 236 x584 := .of Tryz.func236 (by kernel_rfl) (by kernel_rfl) (by kernel_rfl) (by kernel_rfl) (by kernel_rfl)
theorem ok237 : FunOK Tryz.prog num 237 x585 := .of Tryz.func237 (by kernel_rfl) (by kernel_rfl) (by kernel_rfl) (by kernel_rfl) (by kernel_rfl)
theorem ok238 : FunOK Tryz.prog num 238 x586 := .of Tryz.func238 (by kernel_rfl) (by kernel_rfl) (by kernel_rfl) (by kernel_rfl) (by kernel_rfl)
theorem ok239 : FunOK Tryz.prog num 239 x587 := .of Tryz.func239 (by kernel_rfl) (by kernel_rfl) (by kernel_rfl) (by kernel_rfl) (by kernel_rfl)
theorem ok240 : FunOK Tryz.prog num 240 x673 := .of Tryz.func240 (by kernel_rfl) (by kernel_rfl) (by kernel_rfl) (by kernel_rfl) (by kernel_rfl)
theorem ok241 : FunOK Tryz.prog num 241 x785 := .of Tryz.func241 (by kernel_rfl) (by kernel_rfl) (by kernel_rfl) (by kernel_rfl) (by kernel_rfl)
theorem ok242 : FunOK Tryz.prog num 242 x245 := .of Tryz.func242 (by kernel_rfl) (by kernel_rfl) (by kernel_rfl) (by kernel_rfl) (by kernel_rfl)
theorem ok243 : FunOK Tryz.prog num 243 x669 := .of Tryz.func243 (by kernel_rfl) (by kernel_rfl) (by kernel_rfl) (by kernel_rfl) (by kernel_rfl)
theorem ok244 : FunOK Tryz.prog num 244 x709 := .of Tryz.func244 (by kernel_rfl) (by kernel_rfl) (by kernel_rfl) (by kernel_rfl) (by kernel_rfl)
abbrev FnAt (f : Nat) : Prop := ∀ xf, code11y (num f) = some xf → FunOK Tryz.prog num f xf
theorem hit {n : Nat} {x : XFun} (e : code11y (num n) = some x) (k : FunOK Tryz.prog num n x) (r : ∀ f, f < n → FnAt f) : ∀ f, f < n + 1 → FnAt f := fun f h xf hx => by
 rcases Nat.lt_or_eq_of_le (Nat.le_of_lt_succ h) with h | rfl
 ·exact r f h xf hx
 ·rw [e] at hx; cases hx; exact k
theorem nix {n : Nat} (e : code11y (num n) = none) (r : ∀ f, f < n → FnAt f) : ∀ f, f < n + 1 → FnAt f := fun f h xf hx => by
 rcases Nat.lt_or_eq_of_le (Nat.le_of_lt_succ h) with h | rfl
 ·exact r f h xf hx
 ·rw [e] at hx; cases hx
theorem upto20 : ∀ f, f < 20 → FnAt f :=
 hit (by kernel_rfl) ok19 <|
 nix (by kernel_rfl) <|
 nix (by kernel_rfl) <|
 nix (by kernel_rfl) <|
 nix (by kernel_rfl) <|
 nix (by kernel_rfl) <|
 hit (by kernel_rfl) ok13 <|
 nix (by kernel_rfl) <|
 hit (by kernel_rfl) ok11 <|
 nix (by kernel_rfl) <|
 hit (by kernel_rfl) ok9 <|
 nix (by kernel_rfl) <|
 hit (by kernel_rfl) ok7 <|
 nix (by kernel_rfl) <|
 hit (by kernel_rfl) ok5 <|
 nix (by kernel_rfl) <|
 nix (by kernel_rfl) <|
 nix (by kernel_rfl) <|
 nix (by kernel_rfl) <|
 nix (by kernel_rfl) (fun f h => absurd h (Nat.not_lt_zero f))
theorem upto40 : ∀ f, f < 40 → FnAt f :=
 nix (by kernel_rfl) <|
 nix (by kernel_rfl) <|
 nix (by kernel_rfl) <|
 hit (by kernel_rfl) ok36 <|
 nix (by kernel_rfl) <|
 nix (by kernel_rfl) <|
 nix (by kernel_rfl) <|
 nix (by kernel_rfl) <|
 nix (by kernel_rfl) <|
 nix (by kernel_rfl) <|
 nix (by kernel_rfl) <|
 hit (by kernel_rfl) ok28 <|
 hit (by kernel_rfl) ok27 <|
 hit (by kernel_rfl) ok26 <|
 hit (by kernel_rfl) ok25 <|
 hit (by kernel_rfl) ok24 <|
 hit (by kernel_rfl) ok23 <|
 hit (by kernel_rfl) ok22 <|
 hit (by kernel_rfl) ok21 <|
 hit (by kernel_rfl) ok20 upto20
theorem upto60 : ∀ f, f < 60 → FnAt f :=
 hit (by kernel_rfl) ok59 <|
 hit (by kernel_rfl) ok58 <|
 nix (by kernel_rfl) <|
 nix (by kernel_rfl) <|
 nix (by kernel_rfl) <|
 hit (by kernel_rfl) ok54 <|
 hit (by kernel_rfl) ok53 <|
 hit (by kernel_rfl) ok52 <|
 hit (by kernel_rfl) ok51 <|
 nix (by kernel_rfl) <|
 nix (by kernel_rfl) <|
 hit (by kernel_rfl) ok48 <|
 hit (by kernel_rfl) ok47 <|
 hit (by kernel_rfl) ok46 <|
 hit (by kernel_rfl) ok45 <|
 hit (by kernel_rfl) ok44 <|
 nix (by kernel_rfl) <|
 hit (by kernel_rfl) ok42 <|
 nix (by kernel_rfl) <|
 nix (by kernel_rfl) upto40
theorem upto80 : ∀ f, f < 80 → FnAt f :=
 nix (by kernel_rfl) <|
 nix (by kernel_rfl) <|
 nix (by kernel_rfl) <|
 nix (by kernel_rfl) <|
 nix (by kernel_rfl) <|
 nix (by kernel_rfl) <|
 nix (by kernel_rfl) <|
 nix (by kernel_rfl) <|
 nix (by kernel_rfl) <|
 nix (by kernel_rfl) <|
 nix (by kernel_rfl) <|
 nix (by kernel_rfl) <|
 nix (by kernel_rfl) <|
 nix (by kernel_rfl) <|
 nix (by kernel_rfl) <|
 hit (by kernel_rfl) ok64 <|
 hit (by kernel_rfl) ok63 <|
 hit (by kernel_rfl) ok62 <|
 hit (by kernel_rfl) ok61 <|
 hit (by kernel_rfl) ok60 upto60
theorem upto100 : ∀ f, f < 100 → FnAt f :=
 nix (by kernel_rfl) <|
 nix (by kernel_rfl) <|
 nix (by kernel_rfl) <|
 nix (by kernel_rfl) <|
 nix (by kernel_rfl) <|
 nix (by kernel_rfl) <|
 nix (by kernel_rfl) <|
 nix (by kernel_rfl) <|
 nix (by kernel_rfl) <|
 nix (by kernel_rfl) <|
 nix (by kernel_rfl) <|
 nix (by kernel_rfl) <|
 nix (by kernel_rfl) <|
 nix (by kernel_rfl) <|
 nix (by kernel_rfl) <|
 nix (by kernel_rfl) <|
 nix (by kernel_rfl) <|
 nix (by kernel_rfl) <|
 nix (by kernel_rfl) <|
 nix (by kernel_rfl) upto80
theorem upto120 : ∀ f, f < 120 → FnAt f :=
 nix (by kernel_rfl) <|
 nix (by kernel_rfl) <|
 nix (by kernel_rfl) <|
 nix (by kernel_rfl) <|
 nix (by kernel_rfl) <|
 nix (by kernel_rfl) <|
 nix (by kernel_rfl) <|
 nix (by kernel_rfl) <|
 nix (by kernel_rfl) <|
 nix (by kernel_rfl) <|
 nix (by kernel_rfl) <|
 nix (by kernel_rfl) <|
 nix (by kernel_rfl) <|
 nix (by kernel_rfl) <|
 nix (by kernel_rfl) <|
 nix (by kernel_rfl) <|
 nix (by kernel_rfl) <|
 nix (by kernel_rfl) <|
 nix (by kernel_rfl) <|
 nix (by kernel_rfl) upto100
theorem upto140 : ∀ f, f < 140 → FnAt f :=
 hit (by kernel_rfl) ok139 <|
 hit (by kernel_rfl) ok138 <|
 hit (by kernel_rfl) ok137 <|
 hit (by kernel_rfl) ok136 <|
 hit (by kernel_rfl) ok135 <|
 hit (by kernel_rfl) ok134 <|
 hit (by kernel_rfl) ok133 <|
 hit (by kernel_rfl) ok132 <|
 hit (by kernel_rfl) ok131 <|
 hit (by kernel_rfl) ok130 <|
 hit (by kernel_rfl) ok129 <|
 hit (by kernel_rfl) ok128 <|
 hit (by kernel_rfl) ok127 <|
 nix (by kernel_rfl) <|
 nix (by kernel_rfl) <|
 nix (by kernel_rfl) <|
 nix (by kernel_rfl) <|
 nix (by kernel_rfl) <|
 nix (by kernel_rfl) <|
 nix (by kernel_rfl) upto120
theorem upto160 : ∀ f, f < 160 → FnAt f :=
 nix (by kernel_rfl) <|
 nix (by kernel_rfl) <|
 nix (by kernel_rfl) <|
 nix (by kernel_rfl) <|
 hit (by kernel_rfl) ok155 <|
 hit (by kernel_rfl) ok154 <|
 hit (by kernel_rfl) ok153 <|
 hit (by kernel_rfl) ok152 <|
 hit (by kernel_rfl) ok151 <|
 hit (by kernel_rfl) ok150 <|
 hit (by kernel_rfl) ok149 <|
 hit (by kernel_rfl) ok148 <|
 hit (by kernel_rfl) ok147 <|
 hit (by kernel_rfl) ok146 <|
 hit (by kernel_rfl) ok145 <|
 hit (by kernel_rfl) ok144 <|
 hit (by kernel_rfl) ok143 <|
 hit (by kernel_rfl) ok142 <|
 hit (by kernel_rfl) ok141 <|
 hit (by kernel_rfl) ok140 upto140
theorem upto180 : ∀ f, f < 180 → FnAt f :=
 nix (by kernel_rfl) <|
 nix (by kernel_rfl) <|
 nix (by kernel_rfl) <|
 nix (by kernel_rfl) <|
 nix (by kernel_rfl) <|
 nix (by kernel_rfl) <|
 nix (by kernel_rfl) <|
 nix (by kernel_rfl) <|
 nix (by kernel_rfl) <|
 nix (by kernel_rfl) <|
 nix (by kernel_rfl) <|
 nix (by kernel_rfl) <|
 nix (by kernel_rfl) <|
 nix (by kernel_rfl) <|
 nix (by kernel_rfl) <|
 nix (by kernel_rfl) <|
 nix (by kernel_rfl) <|
 nix (by kernel_rfl) <|
 nix (by kernel_rfl) <|
 nix (by kernel_rfl) upto160
theorem upto200 : ∀ f, f < 200 → FnAt f :=
 hit (by kernel_rfl) ok199 <|
 hit (by kernel_rfl) ok198 <|
 nix (by kernel_rfl) <|
 nix (by kernel_rfl) <|
 nix (by kernel_rfl) <|
 nix (by kernel_rfl) <|
 nix (by kernel_rfl) <|
 nix (by kernel_rfl) <|
 nix (by kernel_rfl) <|
 nix (by kernel_rfl) <|
 nix (by kernel_rfl) <|
 nix (by kernel_rfl) <|
 nix (by kernel_rfl) <|
 nix (by kernel_rfl) <|
 nix (by kernel_rfl) <|
 nix (by kernel_rfl) <|
 nix (by kernel_rfl) <|
 nix (by kernel_rfl) <|
 nix (by kernel_rfl) <|
 nix (by kernel_rfl) upto180
theorem upto220 : ∀ f, f < 220 → FnAt f :=
 hit (by kernel_rfl) ok219 <|
 hit (by kernel_rfl) ok218 <|
 hit (by kernel_rfl) ok217 <|
 hit (by kernel_rfl) ok216 <|
 hit (by kernel_rfl) ok215 <|
 hit (by kernel_rfl) ok214 <|
 hit (by kernel_rfl) ok213 <|
 hit (by kernel_rfl) ok212 <|
 hit (by kernel_rfl) ok211 <|
 hit (by kernel_rfl) ok210 <|
 hit (by kernel_rfl) ok209 <|
 hit (by kernel_rfl) ok208 <|
 hit (by kernel_rfl) ok207 <|
 hit (by kernel_rfl) ok206 <|
 hit (by kernel_rfl) ok205 <|
 hit (by kernel_rfl) ok204 <|
 hit (by kernel_rfl) ok203 <|
 hit (by kernel_rfl) ok202 <|
 hit (by kernel_rfl) ok201 <|
 hit (by kernel_rfl) ok200 upto200
theorem upto240 : ∀ f, f < 240 → FnAt f :=
 hit (by kernel_rfl) ok239 <|
 hit (by kernel_rfl) ok238 <|
 hit (by kernel_rfl) ok237 <|
 hit (by kernel_rfl) ok236 <|
 hit (by kernel_rfl) ok235 <|
 hit (by kernel_rfl) ok234 <|
 hit (by kernel_rfl) ok233 <|
 nix (by kernel_rfl) <|
 hit (by kernel_rfl) ok231 <|
 hit (by kernel_rfl) ok230 <|
 hit (by kernel_rfl) ok229 <|
 hit (by kernel_rfl) ok228 <|
 hit (by kernel_rfl) ok227 <|
 hit (by kernel_rfl) ok226 <|
 hit (by kernel_rfl) ok225 <|
 hit (by kernel_rfl) ok224 <|
 hit (by kernel_rfl) ok223 <|
 hit (by kernel_rfl) ok222 <|
 hit (by kernel_rfl) ok221 <|
 nix (by kernel_rfl) upto220
theorem upto260 : ∀ f, f < 260 → FnAt f :=
 nix (by kernel_rfl) <|
 nix (by kernel_rfl) <|
 nix (by kernel_rfl) <|
 nix (by kernel_rfl) <|
 nix (by kernel_rfl) <|
 nix (by kernel_rfl) <|
 nix (by kernel_rfl) <|
 nix (by kernel_rfl) <|
 nix (by kernel_rfl) <|
 nix (by kernel_rfl) <|
 nix (by kernel_rfl) <|
 nix (by kernel_rfl) <|
 nix (by kernel_rfl) <|
 nix (by kernel_rfl) <|
 nix (by kernel_rfl) <|
 hit (by kernel_rfl) ok244 <|
 hit (by kernel_rfl) ok243 <|
 hit (by kernel_rfl) ok242 <|
 hit (by kernel_rfl) ok241 <|
 hit (by kernel_rfl) ok240 upto240
theorem upto280 : ∀ f, f < 280 → FnAt f :=
 nix (by kernel_rfl) <|
 nix (by kernel_rfl) <|
 nix (by kernel_rfl) <|
 nix (by kernel_rfl) <|
 nix (by kernel_rfl) <|
 nix (by kernel_rfl) <|
 nix (by kernel_rfl) <|
 nix (by kernel_rfl) <|
 nix (by kernel_rfl) <|
 nix (by kernel_rfl) <|
 nix (by kernel_rfl) <|
 nix (by kernel_rfl) <|
 nix (by kernel_rfl) <|
 nix (by kernel_rfl) <|
 nix (by kernel_rfl) <|
 nix (by kernel_rfl) <|
 nix (by kernel_rfl) <|
 nix (by kernel_rfl) <|
 nix (by kernel_rfl) <|
 nix (by kernel_rfl) upto260
theorem upto282 : ∀ f, f < 282 → FnAt f :=
 nix (by kernel_rfl) <|
 nix (by kernel_rfl) upto280
theorem fns (f : FuncId) (xf : XFun) (h : code11y (num f) = some xf) : FunOK Tryz.prog num f xf := by
 by_cases hf : f < 282
 ·exact upto282 f hf xf h
 ·have hn : num f = 100000 + f := by
   unfold num
   rw [List.getElem?_eq_none (by rw [show gids.length = 282 from by kernel_rfl]; simp only [FuncId] at *; omega)]; rfl
  rw [hn] at h
  unfold code11y at h
  split at h <;> first | (exfalso; simp only [FuncId] at *; omega) | cases h
theorem nz (f : FuncId) : num f ≠ yieldNo := by
 by_cases hf : f < 282
 ·exact (by decide +kernel : ∀ f : Fin 282, num f.val ≠ yieldNo) ⟨f, hf⟩
 ·have hn : num f = 100000 + f := by
   unfold num
   rw [List.getElem?_eq_none (by rw [show gids.length = 282 from by kernel_rfl]; simp only [FuncId] at *; omega)]; rfl
  rw [hn, yieldNo]
  simp only [FuncId] at *; omega
def ren169 : Go.Shelf.Ren := ⟨fun | 169 => 232 | n => n, fun | 70 => 307 | 9 => 9 | 0 => 0 | 72 => 309 | 37 => 132 | 127 => 325 | 3 => 3 | 5 => 5 | n => n, fun | n => n⟩
theorem lays169 : Go.Proofs.Lays.n169 Tryz.prog ren169 := {
 mixed := by kernel_rfl
 f169 := Tryz.func232.trans (congrArg some (by kernel_rfl))
 t0 := Tryz.underlying0
 a0 := Tryz.isAgg0
 z0 := Tryz.sizeOf0
 v0 := Tryz.zeroValue0
 t3 := Tryz.underlying3
 a3 := Tryz.isAgg3
 z3 := Tryz.sizeOf3
 v3 := Tryz.zeroValue3
 t9 := Tryz.underlying9
 a9 := Tryz.isAgg9
 z9 := Tryz.sizeOf9
 v9 := Tryz.zeroValue9
 t37 := Tryz.underlying132
 a37 := Tryz.isAgg132
 z37 := Tryz.sizeOf132
 v37 := Tryz.zeroValue132
 t70 := Tryz.underlying307
 a70 := Tryz.isAgg307
 z70 := Tryz.sizeOf307
 v70 := Tryz.zeroValue307
 t72 := Tryz.underlying309
 a72 := Tryz.isAgg309
 z72 := Tryz.sizeOf309
 v72 := Tryz.zeroValue309
 t127 := Tryz.underlying325
 a127 := Tryz.isAgg325
 z127 := Tryz.sizeOf325
 v127 := Tryz.zeroValue325 }
def ren246 : Go.Shelf.Ren := ⟨fun | 246 => 246 | 283 => 248 | 284 => 249 | 285 => 250 | 286 => 251 | 129 => 253 | 317 => 252 | 318 => 254 | 319 => 255 | 320 => 256 | 337 => 257 | 338 => 258 | n => n, fun | 2 => 2 | 3 => 3 | 9 => 9 | 4 => 4 | 171 => 328 | 0 => 0 | 53 => 300 | 37 => 132 | 5 => 5 | 173 => 331 | 212 => 334 | 51 => 335 | 20 => 20 | 213 => 336 | 46 => 337 | 232 => 340 | 233 => 341 | n => n, fun | 17 => 0 | 18 => 1 | 19 => 2 | n => n⟩
theorem lays246 : Go.Proofs.LaysM.n246 Tryz.prog ren246 := {
 mixed := by kernel_rfl
 f129 := Tryz.func253.trans (congrArg some (by kernel_rfl))
 f246 := Tryz.func246.trans (congrArg some (by kernel_rfl))
 f283 := Tryz.func248.trans (congrArg some (by kernel_rfl))
 f284 := Tryz.func249.trans (congrArg some (by kernel_rfl))
 f285 := Tryz.func250.trans (congrArg some (by kernel_rfl))
 f286 := Tryz.func251.trans (congrArg some (by kernel_rfl))
 f317 := Tryz.func252.trans (congrArg some (by kernel_rfl))
 f318 := Tryz.func254.trans (congrArg some (by kernel_rfl))
 f319 := Tryz.func255.trans (congrArg some (by kernel_rfl))
 f320 := Tryz.func256.trans (congrArg some (by kernel_rfl))
 f337 := Tryz.func257.trans (congrArg some (by kernel_rfl))
 f338 := Tryz.func258.trans (congrArg some (by kernel_rfl))
 t0 := Tryz.underlying0
 a0 := Tryz.isAgg0
 z0 := Tryz.sizeOf0
 v0 := Tryz.zeroValue0
 t2 := Tryz.underlying2
 a2 := Tryz.isAgg2
 z2 := Tryz.sizeOf2
 v2 := Tryz.zeroValue2
 t3 := Tryz.underlying3
 a3 := Tryz.isAgg3
 z3 := Tryz.sizeOf3
 v3 := Tryz.zeroValue3
 t4 := Tryz.underlying4
 a4 := Tryz.isAgg4
 z4 := Tryz.sizeOf4
 v4 := Tryz.zeroValue4
 t5 := Tryz.underlying5
 a5 := Tryz.isAgg5
 z5 := Tryz.sizeOf5
 v5 := Tryz.zeroValue5
 t9 := Tryz.underlying9
 a9 := Tryz.isAgg9
 z9 := Tryz.sizeOf9
 v9 := Tryz.zeroValue9
 t20 := Tryz.underlying20
 a20 := Tryz.isAgg20
 z20 := Tryz.sizeOf20
 v20 := Tryz.zeroValue20
 t37 := Tryz.underlying132
 a37 := Tryz.isAgg132
 z37 := Tryz.sizeOf132
 v37 := Tryz.zeroValue132
 t46 := Tryz.underlying337
 a46 := Tryz.isAgg337
 z46 := Tryz.sizeOf337
 v46 := Tryz.zeroValue337
 t51 := Tryz.underlying335
 a51 := Tryz.isAgg335
 z51 := Tryz.sizeOf335
 v51 := Tryz.zeroValue335
 t53 := Tryz.underlying300
 a53 := Tryz.isAgg300
 z53 := Tryz.sizeOf300
 v53 := Tryz.zeroValue300
 t171 := Tryz.underlying328
 a171 := Tryz.isAgg328
 z171 := Tryz.sizeOf328
 v171 := Tryz.zeroValue328
 t173 := Tryz.underlying331
 a173 := Tryz.isAgg331
 z173 := Tryz.sizeOf331
 v173 := Tryz.zeroValue331
 t212 := Tryz.underlying334
 a212 := Tryz.isAgg334
 z212 := Tryz.sizeOf334
 v212 := Tryz.zeroValue334
 t213 := Tryz.underlying336
 a213 := Tryz.isAgg336
 z213 := Tryz.sizeOf336
 t232 := Tryz.underlying340
 a232 := Tryz.isAgg340
 z232 := Tryz.sizeOf340
 v232 := Tryz.zeroValue340
 t233 := Tryz.underlying341
 a233 := Tryz.isAgg341
 z233 := Tryz.sizeOf341
 v233 := Tryz.zeroValue341
 g17 := by kernel_rfl
 g18 := by kernel_rfl
 g19 := by kernel_rfl
 i0 := by kernel_rfl
 i2 := by kernel_rfl
 i3 := by kernel_rfl
 i4 := by kernel_rfl
 i5 := by kernel_rfl
 i9 := by kernel_rfl
 i20 := by kernel_rfl
 i37 := by kernel_rfl
 i46 := by kernel_rfl
 i51 := by kernel_rfl
 i53 := by kernel_rfl
 i171 := by kernel_rfl
 i173 := by kernel_rfl
 i212 := by kernel_rfl
 i232 := by kernel_rfl
 i233 := by kernel_rfl
 m17 := by kernel_rfl
 m18 := by kernel_rfl
 m19 := by kernel_rfl }
theorem ck_num (f : FuncId) (h : num f = 674) : f = 245 := by
 by_cases hf : f < 282
 ·exact (by decide +kernel : ∀ f : Fin 282, num f.val = 674 → f.val = 245) ⟨f, hf⟩ h
 ·have hn : num f = 100000 + f := by
   unfold num
   rw [List.getElem?_eq_none (by rw [show gids.length = 282 from by kernel_rfl]; simp only [FuncId] at *; omega)]; rfl
  rw [hn] at h
  exfalso; simp only [FuncId] at *; omega
theorem str_num (f : FuncId) (h : num f = 670) : f = ren169.f 169 := by
 by_cases hf : f < 282
 ·exact (by decide +kernel : ∀ f : Fin 282, num f.val = 670 → f.val = ren169.f 169) ⟨f, hf⟩ h
 ·have hn : num f = 100000 + f := by
   unfold num
   rw [List.getElem?_eq_none (by rw [show gids.length = 282 from by kernel_rfl]; simp only [FuncId] at *; omega)]; rfl
  rw [hn] at h
  exfalso; simp only [FuncId] at *; omega
theorem fmt_num (f : FuncId) (h : num f = 708) : f = ren246.f 246 := by
 by_cases hf : f < 282
 ·exact (by decide +kernel : ∀ f : Fin 282, num f.val = 708 → f.val = ren246.f 246) ⟨f, hf⟩ h
 ·have hn : num f = 100000 + f := by
   unfold num
   rw [List.getElem?_eq_none (by rw [show gids.length = 282 from by kernel_rfl]; simp only [FuncId] at *; omega)]; rfl
  rw [hn] at h
  exfalso; simp only [FuncId] at *; omega
theorem zb9 : Callable Tryz.prog 245 := ⟨Tryz.f245, Tryz.func245, by decide +kernel, by kernel_rfl⟩
theorem zqy : Callable Tryz.prog (ren169.f 169) := ⟨Tryz.f232, Tryz.func232, by decide +kernel, by kernel_rfl⟩
theorem zfr : Callable Tryz.prog (ren246.f 246) := ⟨Tryz.f246, Tryz.func246, by decide +kernel, by kernel_rfl⟩
theorem strExtra : Builder.Extra Tryz.prog ren169 := {
 sizeBuilder := by kernel_rfl
 liesBuilder := by kernel_rfl
 t5 := Tryz.underlying5
 a5 := Tryz.isAgg5
 z5 := Tryz.sizeOf5
 v5 := Tryz.zeroValue5
 infoByte := by kernel_rfl
 cellsByte := by kernel_rfl
 sizeByte := by kernel_rfl
 neB5 := by decide }
abbrev powTab : Tab := ("internal/strconv.uint64pow10", .u64, Lib.pow10Tab)
end Go.Proofs.YtnmhohfmonlfoaaGreatDoor


set_option linter.unusedVariables false
set_option linter.unusedSimpArgs false
namespace Go.EX
attribute [simp] List.range_succ funOut zde zdc zdb XO.unlit XOp.unlit zdd zc8 zc9 zdf zc7 blockOut andThen exOps exOne exOp Env.ev Env.get Env.keep enter AV.cells fresh loadAt getCells getCellsI valBin boolBin intBin shiftBin strBin valUn intOf bndOf bounds
 storeAt imms leave resOf wrapRes order reach Mem.refs AObj.refs AV.refs AV.refs.refsL Mem.pickAll AObj.ren AV.ren AV.ren.renL place fillAll mkObj imZ sameCells St.tidy Env.roots Env.ren AV.plain1 AV.plain2 AV.plain AV.own1 AV.own2 AV.own IV.plain AObj.own AObj.live AV.isImm exView exOwn exShare shareOk AObj.isFix exPeek exLook frz frz.frz1 frzV AObj.moved AObj.orMoved shareAt St.scrub isKeyAV zeroAV
@[simp] theorem lenOf_nil : lenOf (.imm (.val (.slice none 0 0))) = some 0 := rfl
@[simp] theorem lenOf_slice (row : List IV) (off len : Nat) (cap : Option Nat) : lenOf (.imm (.slice row off len cap)) = some len := rfl
@[simp] theorem lenOf_osl (id off sz len : Nat) (cap : Option Nat) : lenOf (.osl id off sz len cap) = some len := rfl
@[simp] theorem capOf_slice (row : List IV) (off len : Nat) (cap : Option Nat) : capOf (.imm (.slice row off len cap)) = cap := rfl
@[simp] theorem capOf_osl (id off sz len : Nat) (cap : Option Nat) : capOf (.osl id off sz len cap) = cap := rfl
@[simp] theorem isNil_slice (row : List IV) (off len : Nat) (cap : Option Nat) : isNil (.imm (.slice row off len cap)) = some false := rfl
@[simp] theorem isNil_ptr (row : List IV) (off : Nat) : isNil (.imm (.ptr row off)) = some false := rfl
@[simp] theorem isNil_osl (id off sz len : Nat) (cap : Option Nat) : isNil (.osl id off sz len cap) = some false := rfl
@[simp] theorem isNil_optr (id off : Nat) : isNil (.optr id off) = some false := rfl
@[simp] theorem isNil_omap (id : Nat) : isNil (.omap id) = some false := rfl
@[simp] theorem isNil_pnone : isNil (.imm (.val (.pointer none))) = some true := rfl
@[simp] theorem isNilK_snone : isNilK 0 (.imm (.val (.slice none 0 0))) = some true := rfl
@[simp] theorem isNilK_slice (row : List IV) (off len : Nat) (cap : Option Nat) : isNilK 0 (.imm (.slice row off len cap)) = some false := rfl
@[simp] theorem isNilK_osl (id off sz len : Nat) (cap : Option Nat) : isNilK 0 (.osl id off sz len cap) = some false := rfl
@[simp] theorem isNilK_pnone : isNilK 1 (.imm (.val (.pointer none))) = some true := rfl
@[simp] theorem isNilK_ptr (row : List IV) (off : Nat) : isNilK 1 (.imm (.ptr row off)) = some false := rfl
@[simp] theorem isNilK_optr (id off : Nat) : isNilK 1 (.optr id off) = some false := rfl
@[simp] theorem int_beq (a b : Int) : (a == b) = decide (a = b) := by by_cases h : a = b <;> simp [h]
theorem zbn {a b : ByteArray} (h : a.toList = b.toList) : a = b := by
 have e : ∀ c : ByteArray, c.toList = c.data.toList := ByteArray.toList_eq
 rw [e, e] at h
 cases a; cases b
 simp at h
 exact congrArg ByteArray.mk h
@[simp] theorem bytes_beq (a b : ByteArray) : (a.toList == b.toList) = decide (a = b) := by
 by_cases h : a = b
 ·subst h; simp
 ·have : a.toList ≠ b.toList := fun e => h (zbn e)
  simp [h, this]
@[simp] theorem cut_zero {β : Type} (l : List β) : cut l 0 0 = some [] := by simp [cut]
@[simp] theorem cut_cons_zero {β : Type} (x : β) (l : List β) (n : Nat) : cut (x :: l) 0 (n + 1) = (cut l 0 n).map (x :: ·) := by
 simp only [cut, List.drop_zero, List.take_succ_cons, List.length_cons]
 by_cases h : (l.take n).length = n
 ·rw [if_pos h, if_pos (by omega)]; rfl
 ·rw [if_neg h, if_neg (by omega)]; rfl
@[simp] theorem cut_cons_succ {β : Type} (x : β) (l : List β) (o n : Nat) : cut (x :: l) (o + 1) n = cut l o n := by simp [cut]
@[simp] theorem setAll_nil {β : Type} (l : List β) (o : Nat) : setAll l o [] = l := rfl
@[simp] theorem setAll_cons_succ {β : Type} (x : β) : ∀ (ys l : List β) (o : Nat), setAll (x :: l) (o + 1) ys = x :: setAll l o ys
 | [], l, o => rfl
 | y :: ys, l, o => by rw [setAll, List.set_cons_succ, setAll_cons_succ x ys]; rfl
@[simp] theorem setAll_cons_zero {β : Type} (x y : β) (l ys : List β) : setAll (x :: l) 0 (y :: ys) = y :: setAll l 0 ys := by
 rw [setAll, List.set_cons_zero, setAll_cons_succ]
@[simp] theorem imms_imm : ∀ (l : List IV), imms (l.map .imm) = some l
 | [] => rfl
 | x :: l => by simp [imms, imms_imm l]
@[simp] theorem copies_0 {β : Type} (l : List β) : copies 0 l = [] := rfl
@[simp] theorem copies_1 {β : Type} (l : List β) : copies 1 l = l := by simp [copies]
@[simp] theorem copies_2 {β : Type} (l : List β) : copies 2 l = l ++ l := by simp [copies]
@[simp] theorem copies_3 {β : Type} (l : List β) : copies 3 l = l ++ (l ++ l) := by simp [copies]
@[simp] theorem copies_4 {β : Type} (l : List β) : copies 4 l = l ++ (l ++ (l ++ l)) := by simp [copies]
def Ty.row {α : Type} (t : Ty α) (xs : List α) : List IV := xs.flatMap t.enc
abbrev nilS : AV := .imm (.val (.slice none 0 0))
abbrev int64 (n : Int) : AV := .imm (.val (.int .i64 n))
abbrev avb (b : Bool) : AV := .imm (.val (.bool b))
theorem zir {code : Nat → Option XFun} {ext : Calls'} {keep : List Nat} {b : XCode} (I : Nat → St → Prop) (Q : XExit → St → Prop)
  (h : ∀ n s, I n s → ∃ e s', den code ext b (s.tidy keep) = some (e, s') ∧ ((e = .normal ∧ ∃ m, m < n ∧ I m s') ∨ (e ≠ .normal ∧ Q e s'))) : ∀ n s, I n s → ∃ e s', den code ext (.loop keep b) s = some (e, s') ∧ e ≠ .normal ∧ Q e s' := by
 intro n
 induction n using Nat.strongRecOn with
 | ind n ih =>
  intro s hs
  obtain ⟨e, s', h1, h2⟩ := h n s hs
  rw [zda, h1]
  rcases h2 with ⟨rfl, m, hm, hI⟩ | ⟨hne, hq⟩
  ·exact ih m hm s' hI
  ·refine ⟨e, s', ?_, hne, hq⟩
   cases e with
   | normal => exact absurd rfl hne
   | exit id => rfl
   | ret => rfl
theorem wrapI64 {x : Int} (h1 : -9223372036854775808 ≤ x) (h2 : x ≤ 9223372036854775807) : IntKind.wrap .i64 x = x := by
 simp only [IntKind.wrap, IntKind.signed, IntKind.bits]
 simp
 omega
theorem wrapU64 {x : Int} (h1 : 0 ≤ x) (h2 : x ≤ 18446744073709551615) : IntKind.wrap .u64 x = x := by
 simp only [IntKind.wrap, IntKind.signed, IntKind.bits]
 simp
 omega
theorem wfI64 {n : Int} : (tInt .i64).wf n ↔ -9223372036854775808 ≤ n ∧ n ≤ 9223372036854775807 := by
 simp [tInt, Lit.wf, IntKind.min, IntKind.max, IntKind.signed, IntKind.bits]
theorem wfU8 {n : Int} : (tInt .u8).wf n ↔ 0 ≤ n ∧ n ≤ 255 := by
 simp [tInt, Lit.wf, IntKind.min, IntKind.max, IntKind.signed, IntKind.bits]
section
variable {α : Type} {t : Ty α} {iv : IV} {xs : List α}
theorem zms (h : Reads t iv xs) : lenOf (.imm iv) = some xs.length := by
 obtain ⟨_, _, ⟨rfl, rfl⟩ | ⟨row, off, cap, rfl, _⟩⟩ := h
 ·rfl
 ·rfl
theorem zc4 {β : Type} {l : List β} {o n : Nat} {r : List β} (h : cut l o n = some r) : r = (l.drop o).take n ∧ r.length = n := by
 unfold cut at h
 dsimp only at h
 split at h
 ·rename_i h1; cases h; exact ⟨rfl, h1⟩
 ·cases h
theorem cut_mk {β : Type} {l : List β} {o n : Nat} {r : List β} (h : (l.drop o).take n = r) (hl : r.length = n) : cut l o n = some r := by
 unfold cut
 dsimp only
 rw [h, if_pos hl]
theorem zcw {β : Type} {l : List β} {o n : Nat} {r : List β} (h : cut l o n = some r) {a b : Nat} (hab : a + b ≤ n) : cut l (o + a) b = cut r a b := by
 obtain ⟨rfl, hl⟩ := zc4 h
 unfold cut
 dsimp only
 rw [List.drop_take, List.drop_drop, List.take_take]
 have : min b (n - a) = b := by omega
 rw [this]
theorem zfl (h0 : ∀ x, (t.enc x).length = t.sz) : ∀ (xs : List α) (i k : Nat), i + k ≤ xs.length → cut (xs.flatMap t.enc) (i * t.sz) (k * t.sz) = some (((xs.drop i).take k).flatMap t.enc) := by
 intro xs i k hk
 refine cut_mk ?_ ?_
 ·have hdrop : ∀ (i : Nat) (l : List α), (l.flatMap t.enc).drop (i * t.sz) = (l.drop i).flatMap t.enc := by
   intro i
   induction i with
   | zero => intro l; simp
   | succ i ih =>
    intro l
    cases l with
    | nil => simp
    | cons x l =>
     rw [List.flatMap_cons, Nat.add_mul, Nat.one_mul, Nat.add_comm, List.drop_append]
     have hx := h0 x
     rw [List.drop_eq_nil_of_le (by omega)]
     have : t.sz + i * t.sz - (t.enc x).length = i * t.sz := by omega
     rw [this, ih]; simp
  have htake : ∀ (k : Nat) (l : List α), (l.flatMap t.enc).take (k * t.sz) = (l.take k).flatMap t.enc := by
   intro k
   induction k with
   | zero => intro l; simp
   | succ i ih =>
    intro l
    cases l with
    | nil => simp
    | cons x l =>
     rw [List.flatMap_cons, Nat.add_mul, Nat.one_mul, Nat.add_comm, List.take_append]
     have hx := h0 x
     rw [List.take_of_length_le (by omega)]
     have : t.sz + i * t.sz - (t.enc x).length = i * t.sz := by omega
     rw [this, ih]; simp
  rw [hdrop, htake]
 ·rw [zfn _ _ h0]
  simp only [List.length_take, List.length_drop]
  congr 1
  omega
theorem zn6 (t : Ty α) (xs : List α) : (t.row xs).length = xs.length * t.sz := zfn _ _ t.len xs
theorem zc3 (t : Ty α) (xs : List α) : cut (t.row xs) 0 (xs.length * t.sz) = some (t.row xs) := zcv _ (zn6 t xs)
theorem zn5 (t : Ty α) (xs ys : List α) : t.row (xs ++ ys) = t.row xs ++ t.row ys := by simp [Ty.row]
theorem zfo {i : Nat} {x : α} (hx : xs[i]? = some x) : cut (t.row xs) (i * t.sz) t.sz = some (t.enc x) := by
 obtain ⟨hi, hxi⟩ := List.getElem?_eq_some_iff.1 hx
 have := zfl t.len xs i 1 hi
 rw [Nat.one_mul] at this
 rw [Ty.row, this, List.drop_eq_getElem_cons hi, hxi]
 simp
theorem zmt (h : Reads t iv xs) {i : Nat} {x : α} (hx : xs[i]? = some x) : ∃ row off cap, iv = .slice row off xs.length cap ∧ (∀ c, cap = some c → xs.length ≤ c) ∧ cut row off (xs.length * t.sz) = some (xs.flatMap t.enc) ∧
  cut row (off + i * t.sz) t.sz = some (t.enc x) := by
 obtain ⟨_, _, ⟨rfl, rfl⟩ | ⟨row, off, cap, rfl, hc, hcut⟩⟩ := h
 ·simp at hx
 ·refine ⟨row, off, cap, rfl, hc, hcut, ?_⟩
  have hi := (List.getElem?_eq_some_iff.1 hx)
  obtain ⟨hi, hxi⟩ := hi
  have : i * t.sz + t.sz ≤ xs.length * t.sz := by
   rw [← Nat.succ_mul]; exact Nat.mul_le_mul_right _ hi
  rw [zcw hcut this]
  have := zfl t.len xs i 1 hi
  rw [Nat.one_mul] at this
  rw [this]
  congr 1
  rw [List.drop_eq_getElem_cons hi, hxi]
  simp
theorem zc1 {β : Type} {l : List β} {o : Nat} {y : β} (h : cut l o 1 = some [y]) : l[o]? = some y := by
 obtain ⟨h1, _⟩ := zc4 h
 have : ((l.drop o).take 1)[0]? = some y := by rw [← h1]; rfl
 rw [List.getElem?_take, if_pos (by omega), List.getElem?_drop] at this
 simpa using this
theorem zmu (t : Ty α) (xs : List α) {cap : Option Nat} (hw : ∀ x ∈ xs, t.wf x) (hl : xs.length ≤ 140737488355328) (hc : ∀ c, cap = some c → xs.length ≤ c) : Reads t (.slice (t.row xs) 0 xs.length cap) xs :=
 ⟨hw, hl, .inr ⟨_, 0, cap, rfl, hc, zcv _ (zn6 t xs)⟩⟩
theorem zdy (m : Mem) (h : Reads t iv xs) : elems m t.sz (.imm iv) = some (xs.length, t.row xs) := by
 obtain ⟨hw, hm, ⟨rfl, rfl⟩ | ⟨row, off, cap, rfl, hc, hcut⟩⟩ := h
 ·rfl
 ·simp only [elems, hcut, Option.map_some, Ty.row]
theorem zpy {β : Type} : ∀ (l ys : List β), l.length = ys.length → setAll l 0 ys = ys := by
 intro l ys h
 refine List.ext_getElem? fun j => ?_
 rw [zpw]
 split
 ·simp
 ·rename_i hn
  have : ys.length ≤ j := by omega
  rw [List.getElem?_eq_none (by omega), List.getElem?_eq_none this]
theorem zpu {β : Type} : ∀ (ys l : List β) (o j : Nat), o + ys.length ≤ l.length → (setAll l o ys)[j]? = if o ≤ j ∧ j < o + ys.length then ys[j - o]? else l[j]?
 | [], l, o, j, h => by simp [setAll]; omega
 | y :: ys, l, o, j, h => by
  simp only [List.length_cons] at h ⊢
  rw [setAll, zpu ys (l.set o y) (o + 1) j (by rw [List.length_set]; omega), List.getElem?_set]
  by_cases h1 : o = j
  ·subst h1
   have e1 : ¬ (o + 1 ≤ o ∧ o < o + 1 + ys.length) := by omega
   rw [if_neg e1, if_pos rfl, if_pos (by omega), if_pos (by omega)]
   simp
  ·by_cases h2 : o + 1 ≤ j ∧ j < o + 1 + ys.length
   ·have e3 : j - o = (j - (o + 1)) + 1 := by omega
    rw [if_pos h2, if_pos (by omega), e3]
    simp
   ·rw [if_neg h2, if_neg h1, if_neg (by omega)]
theorem zpv (h0 : 0 < t.sz) {i : Nat} (hi : i < xs.length) (x : α) : setAll (t.row xs) (i * t.sz) (t.enc x) = t.row (xs.set i x) := by
 unfold Ty.row
 have hle : i * t.sz + (t.enc x).length ≤ (xs.flatMap t.enc).length := by
  rw [zfn _ _ t.len, t.len, ← Nat.succ_mul]
  exact Nat.mul_le_mul_right _ hi
 refine List.ext_getElem? fun j => ?_
 rw [zpu _ _ _ _ hle, zfm _ _ h0 t.len, zfm _ _ h0 t.len, t.len, List.getElem?_set]
 by_cases h : i * t.sz ≤ j ∧ j < i * t.sz + t.sz
 ·have h1 : j / t.sz = i := by
   exact Nat.div_eq_of_lt_le h.1 (by rw [Nat.add_mul, Nat.one_mul]; exact h.2)
  have h2 : j % t.sz = j - i * t.sz := by
   have := Nat.div_add_mod j t.sz
   rw [h1, Nat.mul_comm] at this
   omega
  rw [if_pos h, h1, h2, if_pos rfl, if_pos hi]; rfl
 ·have h1 : ¬ (i = j / t.sz) := by
   intro e
   have h2 := Nat.div_add_mod j t.sz
   have h3 := Nat.mod_lt j h0
   rw [← e, Nat.mul_comm] at h2
   omega
  rw [if_neg h, if_neg h1]
theorem zcr (n : Nat) (x : α) : copies n (t.enc x) = t.row (List.replicate n x) := by
 unfold Ty.row
 induction n with
 | zero => rfl
 | succ n ih => simp [copies, List.replicate_succ, ih]
end
end Go.EX


set_option linter.unusedVariables false
set_option linter.unusedSimpArgs false
namespace Go.EX
structure Val where
 k : Int
 n : Int
 deriving DecidableEq
def tVal : Ty Val := ⟨2, true, fun v => [.val (.int .u8 v.k), .val (.int .i64 v.n)], fun v => (tInt .u8).wf v.k ∧ (tInt .i64).wf v.n, fun _ => rfl⟩
abbrev zVal : Val := ⟨0, 0⟩
structure Obj where
 k : Int
 s : ByteArray
 l : Sl tVal
 room : Int
 fn : Int
def tObj : Ty Obj := ⟨5, true, fun o => [.val (.int .u8 o.k), .val (.string o.s), o.l.iv, .val (.int .i64 o.room), .val (.int .i64 o.fn)],
 fun o => (tInt .u8).wf o.k ∧ tStr.wf o.s ∧ (tInt .i64).wf o.room ∧ (tInt .i64).wf o.fn, fun _ => rfl⟩
end Go.EX


set_option linter.unusedVariables false
set_option linter.unusedSimpArgs false
namespace Go.EX
def code11 : Nat → Option XFun
 | 206 => some x206
 | 207 => some x207
 | 209 => some x209
 | 210 => some x210
 | 211 => some x211
 | 212 => some x212
 | 213 => some x213
 | 214 => some x214
 | 215 => some x215
 | 216 => some x216
 | 217 => some x217
 | 218 => some x218
 | 219 => some x219
 | 485 => some x485
 | 489 => some x489
 | 491 => some x491
 | 578 => some x578
 | 579 => some x579
 | 580 => some x580
 | 581 => some x581
 | 582 => some x582
 | 583 => some x583
 | 584 => some x584
 | 585 => some x585
 | 586 => some x586
 | 587 => some x587
 | 588 => some x588
 | 589 => some x589
 | 627 => some x627
 | 630 => some x630
 | 631 => some x631
 | 632 => some x632
 | 633 => some x633
 | 636 => some x636
 | 639 => some x639
 | 640 => some x640
 | 641 => some x641
 | 642 => some x642
 | 643 => some x643
 | 740 => some x740
 | 741 => some x741
 | 742 => some x742
 | 743 => some x743
 | 749 => some x749
 | 759 => some x759
 | 646 => some x646
 | 647 => some x647
 | 650 => some x650
 | 651 => some x651
 | 652 => some x652
 | 653 => some x653
 | 654 => some x654
 | 655 => some x655
 | 656 => some x656
 | 745 => some x745
 | 755 => some x755
 | _ => none
theorem zcn : code11 yieldNo = none := by
 unfold code11
 split <;> first | (rename_i h; exact absurd h (by decide)) | rfl
theorem lives11 : callW code11 (fun _ _ _ => none) 489 [] [] = some (avb true, []) := (zbs code11 (fun _ _ _ => none)).2 ⟨60, by kernel_rfl⟩
end Go.EX

namespace Go.Proofs.YtnmhohfmonlfoaaGreatDoor
open Go.EX
theorem okL8 : FunOK Tryz.prog num 8 x489 := .of Tryz.func8 (by kernel_rfl) (by kernel_rfl) (by kernel_rfl) (by kernel_rfl) (by kernel_rfl)
theorem okL10 : FunOK Tryz.prog num 10 x627 := .of Tryz.func10 (by kernel_rfl) (by kernel_rfl) (by kernel_rfl) (by kernel_rfl) (by kernel_rfl)
theorem okL17 : FunOK Tryz.prog num 17 x636 := .of Tryz.func17 (by kernel_rfl) (by kernel_rfl) (by kernel_rfl) (by kernel_rfl) (by kernel_rfl)
theorem okL18 : FunOK Tryz.prog num 18 x630 := .of Tryz.func18 (by kernel_rfl) (by kernel_rfl) (by kernel_rfl) (by kernel_rfl) (by kernel_rfl)
theorem okL32 : FunOK Tryz.prog num 32 x632 := .of Tryz.func32 (by kernel_rfl) (by kernel_rfl) (by kernel_rfl) (by kernel_rfl) (by kernel_rfl)
theorem okL33 : FunOK Tryz.prog num 33 x633 := .of Tryz.func33 (by kernel_rfl) (by kernel_rfl) (by kernel_rfl) (by kernel_rfl) (by kernel_rfl)
theorem okL43 : FunOK Tryz.prog num 43 x491 := .of Tryz.func43 (by kernel_rfl) (by kernel_rfl) (by kernel_rfl) (by kernel_rfl) (by kernel_rfl)
theorem okL61 : FunOK Tryz.prog num 61 x643 := .of Tryz.func61 (by kernel_rfl) (by kernel_rfl) (by kernel_rfl) (by kernel_rfl) (by kernel_rfl)
abbrev FnAtL (f : Nat) : Prop := ∀ xf, code11 (num f) = some xf → FunOK Tryz.prog num f xf
theorem hitL {n : Nat} {x : XFun} (e : code11 (num n) = some x) (k : FunOK Tryz.prog num n x) (r : ∀ f, f < n → FnAtL f) : ∀ f, f < n + 1 → FnAtL f := fun f h xf hx => by
 rcases Nat.lt_or_eq_of_le (Nat.le_of_lt_succ h) with h | rfl
 ·exact r f h xf hx
 ·rw [e] at hx; cases hx; exact k
theorem nixL {n : Nat} (e : code11 (num n) = none) (r : ∀ f, f < n → FnAtL f) : ∀ f, f < n + 1 → FnAtL f := fun f h xf hx => by
 rcases Nat.lt_or_eq_of_le (Nat.le_of_lt_succ h) with h | rfl
 ·exact r f h xf hx
 ·rw [e] at hx; cases hx
theorem uptoL20 : ∀ f, f < 20 → FnAtL f :=
 nixL (by kernel_rfl) <|
 hitL (by kernel_rfl) okL18 <|
 hitL (by kernel_rfl) okL17 <|
 nixL (by kernel_rfl) <|
 nixL (by kernel_rfl) <|
 nixL (by kernel_rfl) <|
 nixL (by kernel_rfl) <|
 nixL (by kernel_rfl) <|
 nixL (by kernel_rfl) <|
 hitL (by kernel_rfl) okL10 <|
 nixL (by kernel_rfl) <|
 hitL (by kernel_rfl) okL8 <|
 nixL (by kernel_rfl) <|
 nixL (by kernel_rfl) <|
 nixL (by kernel_rfl) <|
 nixL (by kernel_rfl) <|
 nixL (by kernel_rfl) <|
 nixL (by kernel_rfl) <|
 nixL (by kernel_rfl) <|
 nixL (by kernel_rfl) (fun f h => absurd h (Nat.not_lt_zero f))
theorem uptoL40 : ∀ f, f < 40 → FnAtL f :=
 nixL (by kernel_rfl) <|
 nixL (by kernel_rfl) <|
 nixL (by kernel_rfl) <|
 nixL (by kernel_rfl) <|
 nixL (by kernel_rfl) <|
 nixL (by kernel_rfl) <|
 hitL (by kernel_rfl) okL33 <|
 hitL (by kernel_rfl) okL32 <|
 nixL (by kernel_rfl) <|
 nixL (by kernel_rfl) <|
 nixL (by kernel_rfl) <|
 nixL (by kernel_rfl) <|
 nixL (by kernel_rfl) <|
 nixL (by kernel_rfl) <|
 nixL (by kernel_rfl) <|
 nixL (by kernel_rfl) <|
 hitL (by kernel_rfl) ok23 <|
 nixL (by kernel_rfl) <|
 nixL (by kernel_rfl) <|
 nixL (by kernel_rfl) uptoL20
theorem uptoL60 : ∀ f, f < 60 → FnAtL f :=
 nixL (by kernel_rfl) <|
 nixL (by kernel_rfl) <|
 nixL (by kernel_rfl) <|
 nixL (by kernel_rfl) <|
 nixL (by kernel_rfl) <|
 nixL (by kernel_rfl) <|
 nixL (by kernel_rfl) <|
 nixL (by kernel_rfl) <|
 nixL (by kernel_rfl) <|
 nixL (by kernel_rfl) <|
 nixL (by kernel_rfl) <|
 nixL (by kernel_rfl) <|
 nixL (by kernel_rfl) <|
 nixL (by kernel_rfl) <|
 hitL (by kernel_rfl) ok45 <|
 nixL (by kernel_rfl) <|
 hitL (by kernel_rfl) okL43 <|
 nixL (by kernel_rfl) <|
 nixL (by kernel_rfl) <|
 nixL (by kernel_rfl) uptoL40
theorem uptoL80 : ∀ f, f < 80 → FnAtL f :=
 nixL (by kernel_rfl) <|
 nixL (by kernel_rfl) <|
 nixL (by kernel_rfl) <|
 nixL (by kernel_rfl) <|
 nixL (by kernel_rfl) <|
 nixL (by kernel_rfl) <|
 nixL (by kernel_rfl) <|
 nixL (by kernel_rfl) <|
 nixL (by kernel_rfl) <|
 nixL (by kernel_rfl) <|
 nixL (by kernel_rfl) <|
 nixL (by kernel_rfl) <|
 nixL (by kernel_rfl) <|
 nixL (by kernel_rfl) <|
 nixL (by kernel_rfl) <|
 nixL (by kernel_rfl) <|
 hitL (by kernel_rfl) ok63 <|
 hitL (by kernel_rfl) ok62 <|
 hitL (by kernel_rfl) okL61 <|
 nixL (by kernel_rfl) uptoL60
theorem uptoL100 : ∀ f, f < 100 → FnAtL f :=
 nixL (by kernel_rfl) <|
 nixL (by kernel_rfl) <|
 nixL (by kernel_rfl) <|
 nixL (by kernel_rfl) <|
 nixL (by kernel_rfl) <|
 nixL (by kernel_rfl) <|
 nixL (by kernel_rfl) <|
 nixL (by kernel_rfl) <|
 nixL (by kernel_rfl) <|
 nixL (by kernel_rfl) <|
 nixL (by kernel_rfl) <|
 nixL (by kernel_rfl) <|
 nixL (by kernel_rfl) <|
 nixL (by kernel_rfl) <|
 nixL (by kernel_rfl) <|
 nixL (by kernel_rfl) <|
 nixL (by kernel_rfl) <|
 nixL (by kernel_rfl) <|
 nixL (by kernel_rfl) <|
 nixL (by kernel_rfl) uptoL80
theorem uptoL120 : ∀ f, f < 120 → FnAtL f :=
 nixL (by kernel_rfl) <|
 nixL (by kernel_rfl) <|
 nixL (by kernel_rfl) <|
 nixL (by kernel_rfl) <|
 nixL (by kernel_rfl) <|
 nixL (by kernel_rfl) <|
 nixL (by kernel_rfl) <|
 nixL (by kernel_rfl) <|
 nixL (by kernel_rfl) <|
 nixL (by kernel_rfl) <|
 nixL (by kernel_rfl) <|
 nixL (by kernel_rfl) <|
 nixL (by kernel_rfl) <|
 nixL (by kernel_rfl) <|
 nixL (by kernel_rfl) <|
 nixL (by kernel_rfl) <|
 nixL (by kernel_rfl) <|
 nixL (by kernel_rfl) <|
 nixL (by kernel_rfl) <|
 nixL (by kernel_rfl) uptoL100
theorem uptoL140 : ∀ f, f < 140 → FnAtL f :=
 hitL (by kernel_rfl) ok139 <|
 hitL (by kernel_rfl) ok138 <|
 nixL (by kernel_rfl) <|
 nixL (by kernel_rfl) <|
 nixL (by kernel_rfl) <|
 nixL (by kernel_rfl) <|
 hitL (by kernel_rfl) ok133 <|
 hitL (by kernel_rfl) ok132 <|
 hitL (by kernel_rfl) ok131 <|
 hitL (by kernel_rfl) ok130 <|
 hitL (by kernel_rfl) ok129 <|
 nixL (by kernel_rfl) <|
 nixL (by kernel_rfl) <|
 nixL (by kernel_rfl) <|
 nixL (by kernel_rfl) <|
 nixL (by kernel_rfl) <|
 nixL (by kernel_rfl) <|
 nixL (by kernel_rfl) <|
 nixL (by kernel_rfl) <|
 nixL (by kernel_rfl) uptoL120
theorem uptoL160 : ∀ f, f < 160 → FnAtL f :=
 nixL (by kernel_rfl) <|
 nixL (by kernel_rfl) <|
 nixL (by kernel_rfl) <|
 nixL (by kernel_rfl) <|
 nixL (by kernel_rfl) <|
 nixL (by kernel_rfl) <|
 nixL (by kernel_rfl) <|
 hitL (by kernel_rfl) ok152 <|
 hitL (by kernel_rfl) ok151 <|
 hitL (by kernel_rfl) ok150 <|
 nixL (by kernel_rfl) <|
 hitL (by kernel_rfl) ok148 <|
 hitL (by kernel_rfl) ok147 <|
 hitL (by kernel_rfl) ok146 <|
 hitL (by kernel_rfl) ok145 <|
 hitL (by kernel_rfl) ok144 <|
 hitL (by kernel_rfl) ok143 <|
 hitL (by kernel_rfl) ok142 <|
 hitL (by kernel_rfl) ok141 <|
 hitL (by kernel_rfl) ok140 uptoL140
theorem uptoL180 : ∀ f, f < 180 → FnAtL f :=
 nixL (by kernel_rfl) <|
 nixL (by kernel_rfl) <|
 nixL (by kernel_rfl) <|
 nixL (by kernel_rfl) <|
 nixL (by kernel_rfl) <|
 nixL (by kernel_rfl) <|
 nixL (by kernel_rfl) <|
 nixL (by kernel_rfl) <|
 nixL (by kernel_rfl) <|
 nixL (by kernel_rfl) <|
 nixL (by kernel_rfl) <|
 nixL (by kernel_rfl) <|
 nixL (by kernel_rfl) <|
 nixL (by kernel_rfl) <|
 nixL (by kernel_rfl) <|
 nixL (by kernel_rfl) <|
 nixL (by kernel_rfl) <|
 nixL (by kernel_rfl) <|
 nixL (by kernel_rfl) <|
 nixL (by kernel_rfl) uptoL160
theorem uptoL200 : ∀ f, f < 200 → FnAtL f :=
 hitL (by kernel_rfl) ok199 <|
 nixL (by kernel_rfl) <|
 nixL (by kernel_rfl) <|
 nixL (by kernel_rfl) <|
 nixL (by kernel_rfl) <|
 nixL (by kernel_rfl) <|
 nixL (by kernel_rfl) <|
 nixL (by kernel_rfl) <|
 nixL (by kernel_rfl) <|
 nixL (by kernel_rfl) <|
 nixL (by kernel_rfl) <|
 nixL (by kernel_rfl) <|
 nixL (by kernel_rfl) <|
 nixL (by kernel_rfl) <|
 nixL (by kernel_rfl) <|
 nixL (by kernel_rfl) <|
 nixL (by kernel_rfl) <|
 nixL (by kernel_rfl) <|
 nixL (by kernel_rfl) <|
 nixL (by kernel_rfl) uptoL180
theorem uptoL220 : ∀ f, f < 220 → FnAtL f :=
 nixL (by kernel_rfl) <|
 nixL (by kernel_rfl) <|
 hitL (by kernel_rfl) ok217 <|
 hitL (by kernel_rfl) ok216 <|
 nixL (by kernel_rfl) <|
 hitL (by kernel_rfl) ok214 <|
 hitL (by kernel_rfl) ok213 <|
 hitL (by kernel_rfl) ok212 <|
 hitL (by kernel_rfl) ok211 <|
 nixL (by kernel_rfl) <|
 nixL (by kernel_rfl) <|
 nixL (by kernel_rfl) <|
 nixL (by kernel_rfl) <|
 nixL (by kernel_rfl) <|
 nixL (by kernel_rfl) <|
 hitL (by kernel_rfl) ok204 <|
 hitL (by kernel_rfl) ok203 <|
 hitL (by kernel_rfl) ok202 <|
 hitL (by kernel_rfl) ok201 <|
 hitL (by kernel_rfl) ok200 uptoL200
theorem uptoL240 : ∀ f, f < 240 → FnAtL f :=
 hitL (by kernel_rfl) ok239 <|
 hitL (by kernel_rfl) ok238 <|
 hitL (by kernel_rfl) ok237 <|
 hitL (by kernel_rfl) ok236 <|
 hitL (by kernel_rfl) ok235 <|
 nixL (by kernel_rfl) <|
 nixL (by kernel_rfl) <|
 nixL (by kernel_rfl) <|
 nixL (by kernel_rfl) <|
 nixL (by kernel_rfl) <|
 hitL (by kernel_rfl) ok229 <|
 hitL (by kernel_rfl) ok228 <|
 nixL (by kernel_rfl) <|
 hitL (by kernel_rfl) ok226 <|
 hitL (by kernel_rfl) ok225 <|
 hitL (by kernel_rfl) ok224 <|
 hitL (by kernel_rfl) ok223 <|
 hitL (by kernel_rfl) ok222 <|
 nixL (by kernel_rfl) <|
 nixL (by kernel_rfl) uptoL220
theorem uptoL260 : ∀ f, f < 260 → FnAtL f :=
 nixL (by kernel_rfl) <|
 nixL (by kernel_rfl) <|
 nixL (by kernel_rfl) <|
 nixL (by kernel_rfl) <|
 nixL (by kernel_rfl) <|
 nixL (by kernel_rfl) <|
 nixL (by kernel_rfl) <|
 nixL (by kernel_rfl) <|
 nixL (by kernel_rfl) <|
 nixL (by kernel_rfl) <|
 nixL (by kernel_rfl) <|
 nixL (by kernel_rfl) <|
 nixL (by kernel_rfl) <|
 nixL (by kernel_rfl) <|
 nixL (by kernel_rfl) <|
 nixL (by kernel_rfl) <|
 nixL (by kernel_rfl) <|
 nixL (by kernel_rfl) <|
 nixL (by kernel_rfl) <|
 nixL (by kernel_rfl) uptoL240
theorem uptoL280 : ∀ f, f < 280 → FnAtL f :=
 nixL (by kernel_rfl) <|
 nixL (by kernel_rfl) <|
 nixL (by kernel_rfl) <|
 nixL (by kernel_rfl) <|
 nixL (by kernel_rfl) <|
 nixL (by kernel_rfl) <|
 nixL (by kernel_rfl) <|
 nixL (by kernel_rfl) <|
 nixL (by kernel_rfl) <|
 nixL (by kernel_rfl) <|
 nixL (by kernel_rfl) <|
 nixL (by kernel_rfl) <|
 nixL (by kernel_rfl) <|
 nixL (by kernel_rfl) <|
 nixL (by kernel_rfl) <|
 nixL (by kernel_rfl) <|
 nixL (by kernel_rfl) <|
 nixL (by kernel_rfl) <|
 nixL (by kernel_rfl) <|
 nixL (by kernel_rfl) uptoL260
theorem uptoL282 : ∀ f, f < 282 → FnAtL f :=
 nixL (by kernel_rfl) <|
 nixL (by kernel_rfl) uptoL280
theorem fnsL (f : FuncId) (xf : XFun) (h : code11 (num f) = some xf) : FunOK Tryz.prog num f xf := by
 by_cases hf : f < 282
 ·exact uptoL282 f hf xf h
 ·have hn : num f = 100000 + f := by
   unfold num
   rw [List.getElem?_eq_none (by rw [show gids.length = 282 from by kernel_rfl]; simp only [FuncId] at *; omega)]; rfl
  rw [hn] at h
  unfold code11 at h
  split at h <;> first | (exfalso; simp only [FuncId] at *; omega) | cases h
end Go.Proofs.YtnmhohfmonlfoaaGreatDoor

