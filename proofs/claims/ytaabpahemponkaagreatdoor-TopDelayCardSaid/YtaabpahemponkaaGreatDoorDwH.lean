/-
  What TopDelay leads to; the row's closed facts put together.
-/
import Derived.Test.YtaabpahemponkaaGreatDoorRows
import Derived.ProofKit
import Derived.JoinedOf
import Derived.Test.YtaabpahemponkaaGreatDoorLwB
import Derived.Test.YtaabpahemponkaaGreatDoorLwA
import Derived.Test.YtaabpahemponkaaGreatDoorDwD
import Derived.Test.YtaabpahemponkaaGreatDoorLwE
import Derived.Test.YtaabpahemponkaaGreatDoorLwF
import Derived.Test.YtaabpahemponkaaGreatDoorDwG
import Derived.Test.YtaabpahemponkaaGreatDoorLwC
set_option linter.unusedVariables false
set_option linter.unusedSimpArgs false
set_option maxRecDepth 100000
namespace Go.Proofs.YtaabpahemponkaaGreatDoor
open Go Go.ChangeShapes Go.WideShapes Go.ChangeAt Go.RowKit Go.Clo
def cl4 : List FuncId := [4, 7, 19, 36, 80, 179, 248, 249, 328, 250, 329, 379, 469, 399, 400, 401, 478, 82, 181, 253, 81, 180, 251, 330, 252, 331, 37, 83, 182, 183, 184, 254, 332, 333, 255, 334, 256, 91, 190, 335, 402, 40, 257, 42, 185, 258, 336, 403, 337, 405, 404, 406, 408, 479, 407, 410, 481, 529, 480, 528, 287, 548, 409, 338, 411, 482, 530, 531, 412, 483, 532, 484, 485, 38, 84, 186, 260, 261, 341, 340, 342, 262, 263, 343, 344, 414, 415, 533, 486, 259, 339, 413, 9, 20, 43, 99, 205, 286, 378, 206, 288, 289, 311, 389, 290, 291, 100, 101, 102, 103, 207, 210, 293, 208, 209, 292, 380, 211, 294, 212, 296, 384, 471, 524, 546, 561, 573, 575, 470, 117, 119, 576, 577, 382, 381, 578, 579, 580, 295, 383, 44, 104, 213, 237, 323, 322, 297, 114, 222, 298, 385, 304, 320, 386, 472, 105, 214, 299, 227, 319, 321, 300, 387, 473, 474, 525, 134, 233, 475, 106, 120, 225, 122, 228, 215, 301, 226, 318, 317, 393, 394, 396, 395, 107, 216, 302, 388, 476, 526, 217, 303, 218, 305, 306, 108, 115, 223, 224, 312, 391, 390, 392, 109, 220, 313, 314, 316, 315, 219, 307, 21, 45, 65, 150, 46, 47, 50, 121, 111, 112, 221, 308, 310, 309, 110, 22, 48, 113, 51, 49, 116, 118, 52, 124, 230, 229, 123, 125, 127, 126, 231, 128, 129, 130, 232, 53, 132, 131, 133, 54, 62, 39, 24, 60, 61, 85, 86, 87, 23, 55, 135, 56, 136, 137, 138, 139, 140, 57, 141, 143, 142, 234, 58, 145, 144, 235, 146, 147, 59, 148, 236, 89, 90, 189, 268, 349, 424, 10, 25, 350, 425, 494, 461, 426, 462, 520, 514, 543, 427, 495, 496, 428, 459, 352, 351, 429, 497, 534, 430, 431, 498, 432, 433, 434, 353, 435, 436, 354, 437, 499, 439, 464, 447, 438, 500, 535, 536, 537, 440, 451, 442, 355, 26, 356, 357, 358, 13, 28, 29, 441, 501, 502, 538, 549, 563, 564, 565, 503, 359, 364, 12, 27, 63, 149, 269, 360, 361, 362, 88, 187, 264, 188, 265, 345, 416, 417, 418, 419, 420, 487, 488, 489, 490, 491, 422, 266, 346, 421, 423, 492, 493, 267, 348, 347, 41, 92, 94, 191, 270, 192, 271, 282, 375, 363, 283, 202, 203, 284, 376, 463, 452, 512, 541, 542, 510, 540, 454, 515, 455, 365, 377, 445, 448, 511, 446, 507, 508, 521, 516, 467, 522, 523, 545, 560, 544, 551, 557, 572, 552, 567, 553, 568, 569, 554, 570, 571, 574, 555, 556, 558, 559, 509, 449, 465, 460, 450, 466, 468, 366, 443, 504, 518, 453, 513, 539, 550, 566, 519, 505, 371, 372, 456, 457, 517, 458, 274, 369, 193, 194, 272, 367, 444, 506, 273, 368, 195, 275, 370, 200, 281, 374, 196, 197, 276, 198, 277, 373, 278, 93, 95, 14, 30, 64, 66, 151, 67, 152, 238, 325, 324, 397, 239, 240, 153, 199, 279, 280, 96, 201, 97, 204, 285, 98]
theorem clo4 : Tryz.prog.closure 4 = cl4 := closure_eq tab_ok 4 (by kernel_rfl)
theorem unf4 : Tryz.prog.unfollowed 4 = true := unfollowed_eq tab_ok clo4 (by kernel_rfl)
theorem inp4 : Tryz.prog.inPlace 4 = ["internal/bytealg.IndexByteString", "internal/bytealg.IndexString", "internal/bytealg.CountString", "internal/abi.NoEscape", "internal/bytealg.MakeNoZero", "sync/atomic.LoadUint32", "(*internal/sync.Mutex).Lock", "internal/race.Disable", "sync/atomic.CompareAndSwapInt32", "internal/race.Enable", "internal/race.Acquire", "(*internal/sync.Mutex).lockSlow", "internal/sync.runtime_canSpin", "internal/sync.runtime_doSpin", "internal/sync.throw", "internal/sync.runtime_nanotime", "internal/sync.runtime_SemacquireMutex", "sync/atomic.AddInt32", "(*internal/sync.Mutex).Unlock", "internal/race.ReleaseMerge", "(*internal/sync.Mutex).unlockSlow", "internal/sync.fatal", "internal/sync.runtime_Semrelease", "sync/atomic.StoreUint32", "sync/atomic.AddInt64"] := inPlace_eq tab_ok clo4 (by kernel_rfl)
theorem goes4 : Tryz.prog.goes 4 = false := goes_eq tab_ok (by kernel_rfl)
theorem k10_4 : (Rows.topDelayRow.inPlace == Tryz.prog.inPlace 4) = true := beq_tt (inPlace_eq tab_ok clo4 (by kernel_rfl))
theorem k11_4 : (Rows.topDelayRow.unfollowed == Tryz.prog.unfollowed 4) = true := beq_tt unf4
theorem k12_4 : (Rows.topDelayRow.recurses == Tryz.prog.recurses 4) = true := beq_tt (by unfold Program.recurses; rw [unf4]; rfl)
theorem k13_4 : (Rows.topDelayRow.named == Tryz.prog.varsNamed 4) = true := beq_tt (varsNamed_eq tab_ok clo4 (by kernel_rfl))
end Go.Proofs.YtaabpahemponkaaGreatDoor
set_option maxRecDepth 100000
namespace Go.Proofs.YtaabpahemponkaaGreatDoor
open Go Go.ChangeShapes Go.WideShapes Go.ChangeAt Go.RowKit Go.Clo
theorem joined_4 : joinedFacts Tryz.pinned.checked.prog 4 Tryz.f4 Rows.topDelaySpec Rows.topDelayRow = true :=
  show joinedFacts Tryz.prog 4 Tryz.f4 Rows.topDelaySpec Rows.topDelayRow = true by
  unfold joinedFacts
  exact and_tt (and_tt (and_tt (and_tt (and_tt (and_tt (and_tt (and_tt (and_tt (and_tt (and_tt (and_tt (and_tt (and_tt (and_tt (and_tt (and_tt (and_tt (and_tt (and_tt (and_tt (and_tt (and_tt (and_tt (and_tt (and_tt (and_tt (and_tt (and_tt (and_tt (and_tt (k01_4) laid_out) k03) k04_4) k05_4) k06_4) k07) k08_4) k09) k10_4) k11_4) k12_4) k13_4) k14_4) k15_4) k16_4) k17_4) k18_4) k19_4) k20_4) k21_4) k22_4) k23_4) k24_4) stops_heard) k26) k27_4) k28_4) k29_4) k30_4) k31_4) k32_4
end Go.Proofs.YtaabpahemponkaaGreatDoor
