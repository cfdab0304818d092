/- The sets' texts, as the program and as the reference have them, and the names in them. -/
import Derived.Test.YtejpdbiiikcmmaaGreatDoorCm
import Derived.Lib.Fields
import Derived.Test.YtejpdbiiikcmmaaGreatDoorProg
import Derived.Test.YtejpdbiiikcmmaaGreatDoorShelf
import Derived.Lib.LaidTab
import Derived.Lib.SmallJoins
set_option linter.unusedVariables false
set_option linter.unusedSimpArgs false
namespace Go.Proofs.YtejpdbiiikcmmaaGreatDoor.St
open Go.RowKit Lb

def pt0 : List UInt8 := [97, 114, 101, 97, 32, 98, 97, 115, 101, 32, 98, 114, 32, 99, 111, 108, 32, 101, 109, 98, 101, 100, 32, 104, 114, 32, 105, 109, 103, 32, 105, 110, 112, 117, 116, 32, 108, 105, 110, 107, 32, 109, 101, 116, 97, 32, 115, 111, 117, 114, 99, 101, 32, 116, 114, 97, 99, 107, 32, 119, 98, 114, 32]
def pt1 : List UInt8 := [97, 114, 101, 97, 32, 98, 97, 115, 101, 32, 98, 114, 32, 99, 111, 108, 32, 101, 109, 98, 101, 100, 32, 104, 114, 32, 105, 109, 103, 32, 105, 110, 112, 117, 116, 32, 108, 105, 110, 107, 32, 109, 101, 116, 97, 32, 115, 111, 117, 114, 99, 101, 32, 116, 114, 97, 99, 107, 32, 119, 98, 114, 32, 98, 97, 115, 101, 102, 111, 110, 116, 32, 98, 103, 115, 111, 117, 110, 100, 32, 102, 114, 97, 109, 101, 32, 107, 101, 121, 103, 101, 110, 32, 112, 97, 114, 97, 109]
def pt2 : List UInt8 := [116, 101, 120, 116, 97, 114, 101, 97, 32, 116, 105, 116, 108, 101]
def pt3 : List UInt8 := [105, 102, 114, 97, 109, 101, 32, 110, 111, 101, 109, 98, 101, 100, 32, 110, 111, 102, 114, 97, 109, 101, 115, 32, 110, 111, 115, 99, 114, 105, 112, 116, 32, 115, 116, 121, 108, 101, 32, 120, 109, 112]
def pt4 : List UInt8 := [97, 32, 98, 32, 98, 105, 103, 32, 99, 111, 100, 101, 32, 101, 109, 32, 102, 111, 110, 116, 32, 105, 32, 110, 111, 98, 114, 32, 115, 32, 115, 109, 97, 108, 108, 32, 115, 116, 114, 105, 107, 101, 32, 115, 116, 114, 111, 110, 103, 32, 116, 116, 32, 117]
def pt5 : List UInt8 := [104, 49, 32, 104, 50, 32, 104, 51, 32, 104, 52, 32, 104, 53, 32, 104, 54]
def pt6 : List UInt8 := [97, 100, 100, 114, 101, 115, 115, 32, 97, 114, 116, 105, 99, 108, 101, 32, 97, 115, 105, 100, 101, 32, 98, 108, 111, 99, 107, 113, 117, 111, 116, 101, 32, 99, 101, 110, 116, 101, 114, 32, 100, 100, 32, 100, 101, 116, 97, 105, 108, 115, 32, 100, 105, 97, 108, 111, 103, 32, 100, 105, 114, 32, 100, 105, 118, 32, 100, 108, 32, 100, 116, 32, 102, 105, 101, 108, 100, 115, 101, 116, 32, 102, 105, 103, 99, 97, 112, 116, 105, 111, 110, 32, 102, 105, 103, 117, 114, 101, 32, 102, 111, 111, 116, 101, 114, 32, 102, 111, 114, 109, 32, 104, 49, 32, 104, 50, 32, 104, 51, 32, 104, 52, 32, 104, 53, 32, 104, 54, 32, 104, 101, 97, 100, 101, 114, 32, 104, 103, 114, 111, 117, 112, 32, 104, 114, 32, 108, 105, 32, 108, 105, 115, 116, 105, 110, 103, 32, 109, 97, 105, 110, 32, 109, 101, 110, 117, 32, 110, 97, 118, 32, 111, 108, 32, 112, 32, 112, 108, 97, 105, 110, 116, 101, 120, 116, 32, 112, 114, 101, 32, 115, 101, 97, 114, 99, 104, 32, 115, 101, 99, 116, 105, 111, 110, 32, 115, 117, 109, 109, 97, 114, 121, 32, 116, 97, 98, 108, 101, 32, 117, 108, 32, 120, 109, 112]
def pt7 : List UInt8 := [100, 100, 32, 100, 116, 32, 108, 105, 32, 111, 112, 116, 103, 114, 111, 117, 112, 32, 111, 112, 116, 105, 111, 110, 32, 112, 32, 114, 98, 32, 114, 112, 32, 114, 116, 32, 114, 116, 99]
def pt8 : List UInt8 := [97, 112, 112, 108, 101, 116, 32, 99, 97, 112, 116, 105, 111, 110, 32, 104, 116, 109, 108, 32, 109, 97, 114, 113, 117, 101, 101, 32, 111, 98, 106, 101, 99, 116, 32, 116, 97, 98, 108, 101, 32, 116, 100, 32, 116, 101, 109, 112, 108, 97, 116, 101, 32, 116, 104, 32]
def pt9 : List UInt8 := [97, 112, 112, 108, 101, 116, 32, 99, 97, 112, 116, 105, 111, 110, 32, 104, 116, 109, 108, 32, 109, 97, 114, 113, 117, 101, 101, 32, 111, 98, 106, 101, 99, 116, 32, 116, 97, 98, 108, 101, 32, 116, 100, 32, 116, 101, 109, 112, 108, 97, 116, 101, 32, 116, 104, 32, 111, 108, 32, 117, 108]
def pt10 : List UInt8 := [97, 112, 112, 108, 101, 116, 32, 99, 97, 112, 116, 105, 111, 110, 32, 104, 116, 109, 108, 32, 109, 97, 114, 113, 117, 101, 101, 32, 111, 98, 106, 101, 99, 116, 32, 116, 97, 98, 108, 101, 32, 116, 100, 32, 116, 101, 109, 112, 108, 97, 116, 101, 32, 116, 104, 32, 98, 117, 116, 116, 111, 110]
def pt11 : List UInt8 := [104, 116, 109, 108, 32, 116, 97, 98, 108, 101, 32, 116, 101, 109, 112, 108, 97, 116, 101]
def pt12 : List UInt8 := [97, 100, 100, 114, 101, 115, 115, 32, 97, 112, 112, 108, 101, 116, 32, 97, 114, 101, 97, 32, 97, 114, 116, 105, 99, 108, 101, 32, 97, 115, 105, 100, 101, 32, 98, 97, 115, 101, 32, 98, 97, 115, 101, 102, 111, 110, 116, 32, 98, 103, 115, 111, 117, 110, 100, 32, 98, 108, 111, 99, 107, 113, 117, 111, 116, 101, 32, 98, 111, 100, 121, 32, 98, 114, 32, 98, 117, 116, 116, 111, 110, 32, 99, 97, 112, 116, 105, 111, 110, 32, 99, 101, 110, 116, 101, 114, 32, 99, 111, 108, 32, 99, 111, 108, 103, 114, 111, 117, 112, 32, 100, 100, 32, 100, 101, 116, 97, 105, 108, 115, 32, 100, 105, 114, 32, 100, 105, 118, 32, 100, 108, 32, 100, 116, 32, 101, 109, 98, 101, 100, 32, 102, 105, 101, 108, 100, 115, 101, 116, 32, 102, 105, 103, 99, 97, 112, 116, 105, 111, 110, 32, 102, 105, 103, 117, 114, 101, 32, 102, 111, 111, 116, 101, 114, 32, 102, 111, 114, 109, 32, 102, 114, 97, 109, 101, 32, 102, 114, 97, 109, 101, 115, 101, 116, 32, 104, 49, 32, 104, 50, 32, 104, 51, 32, 104, 52, 32, 104, 53, 32, 104, 54, 32, 104, 101, 97, 100, 32, 104, 101, 97, 100, 101, 114, 32, 104, 103, 114, 111, 117, 112, 32, 104, 114, 32, 104, 116, 109, 108, 32, 105, 102, 114, 97, 109, 101, 32, 105, 109, 103, 32, 105, 110, 112, 117, 116, 32, 107, 101, 121, 103, 101, 110, 32, 108, 105, 32, 108, 105, 110, 107, 32, 108, 105, 115, 116, 105, 110, 103, 32, 109, 97, 105, 110, 32, 109, 97, 114, 113, 117, 101, 101, 32, 109, 101, 110, 117, 32, 109, 101, 116, 97, 32, 110, 97, 118, 32, 110, 111, 101, 109, 98, 101, 100, 32, 110, 111, 102, 114, 97, 109, 101, 115, 32, 110, 111, 115, 99, 114, 105, 112, 116, 32, 111, 98, 106, 101, 99, 116, 32, 111, 108, 32, 112, 32, 112, 97, 114, 97, 109, 32, 112, 108, 97, 105, 110, 116, 101, 120, 116, 32, 112, 114, 101, 32, 115, 99, 114, 105, 112, 116, 32, 115, 101, 97, 114, 99, 104, 32, 115, 101, 99, 116, 105, 111, 110, 32, 115, 101, 108, 101, 99, 116, 32, 115, 111, 117, 114, 99, 101, 32, 115, 116, 121, 108, 101, 32, 115, 117, 109, 109, 97, 114, 121, 32, 116, 97, 98, 108, 101, 32, 116, 98, 111, 100, 121, 32, 116, 100, 32, 116, 101, 109, 112, 108, 97, 116, 101, 32, 116, 101, 120, 116, 97, 114, 101, 97, 32, 116, 102, 111, 111, 116, 32, 116, 104, 32, 116, 104, 101, 97, 100, 32, 116, 105, 116, 108, 101, 32, 116, 114, 32, 116, 114, 97, 99, 107, 32, 117, 108, 32, 119, 98, 114, 32, 120, 109, 112]
def pt13 : List UInt8 := [97, 112, 112, 108, 101, 116, 32, 99, 97, 112, 116, 105, 111, 110, 32, 109, 97, 114, 113, 117, 101, 101, 32, 111, 98, 106, 101, 99, 116, 32, 116, 100, 32, 116, 101, 109, 112, 108, 97, 116, 101, 32, 116, 104]
def pt14 : List UInt8 := [99, 97, 112, 116, 105, 111, 110, 32, 99, 111, 108, 32, 99, 111, 108, 103, 114, 111, 117, 112, 32, 116, 98, 111, 100, 121, 32, 116, 100, 32, 116, 102, 111, 111, 116, 32, 116, 104, 32, 116, 104, 101, 97, 100, 32, 116, 114]
def pt15 : List UInt8 := [97, 32, 97, 98, 98, 114, 32, 97, 100, 100, 114, 101, 115, 115, 32, 97, 114, 116, 105, 99, 108, 101, 32, 97, 115, 105, 100, 101, 32, 98, 32, 98, 100, 105, 32, 98, 100, 111, 32, 98, 108, 111, 99, 107, 113, 117, 111, 116, 101, 32, 98, 114, 32, 99, 97, 112, 116, 105, 111, 110, 32, 99, 101, 110, 116, 101, 114, 32, 99, 105, 116, 101, 32, 99, 111, 100, 101, 32, 99, 111, 108, 32, 99, 111, 108, 103, 114, 111, 117, 112, 32, 100, 97, 116, 97, 32, 100, 100, 32, 100, 101, 108, 32, 100, 101, 116, 97, 105, 108, 115, 32, 100, 102, 110, 32, 100, 105, 97, 108, 111, 103, 32, 100, 105, 118, 32, 100, 108, 32, 100, 116, 32, 101, 109, 32, 102, 105, 103, 99, 97, 112, 116, 105, 111, 110, 32, 102, 105, 103, 117, 114, 101, 32, 102, 111, 111, 116, 101, 114, 32, 104, 49, 32, 104, 50, 32, 104, 51, 32, 104, 52, 32, 104, 53, 32, 104, 54, 32, 104, 101, 97, 100, 101, 114, 32, 104, 103, 114, 111, 117, 112, 32, 104, 114, 32, 105, 32, 105, 109, 103, 32, 105, 110, 115, 32, 107, 98, 100, 32, 108, 97, 98, 101, 108, 32, 108, 105, 32, 109, 97, 105, 110, 32, 109, 97, 114, 107, 32, 109, 101, 110, 117, 32, 110, 97, 118, 32, 111, 108, 32, 112, 32, 112, 114, 101, 32, 113, 32, 115, 32, 115, 97, 109, 112, 32, 115, 101, 97, 114, 99, 104, 32, 115, 101, 99, 116, 105, 111, 110, 32, 115, 109, 97, 108, 108, 32, 115, 112, 97, 110, 32, 115, 116, 114, 111, 110, 103, 32, 115, 117, 98, 32, 115, 117, 109, 109, 97, 114, 121, 32, 115, 117, 112, 32, 116, 97, 98, 108, 101, 32, 116, 98, 111, 100, 121, 32, 116, 100, 32, 116, 101, 120, 116, 97, 114, 101, 97, 32, 116, 102, 111, 111, 116, 32, 116, 104, 32, 116, 104, 101, 97, 100, 32, 116, 105, 109, 101, 32, 116, 114, 32, 117, 32, 117, 108, 32, 118, 97, 114, 32, 119, 98, 114]
def rt0 : List UInt8 := [97, 114, 101, 97, 32, 98, 97, 115, 101, 32, 98, 114, 32, 99, 111, 108, 32, 101, 109, 98, 101, 100, 32, 104, 114, 32, 105, 109, 103, 32, 105, 110, 112, 117, 116, 32, 108, 105, 110, 107, 32, 109, 101, 116, 97, 32, 115, 111, 117, 114, 99, 101, 32, 116, 114, 97, 99, 107, 32, 119, 98, 114]
def rt1 : List UInt8 := [97, 114, 101, 97, 32, 98, 97, 115, 101, 32, 98, 114, 32, 99, 111, 108, 32, 101, 109, 98, 101, 100, 32, 104, 114, 32, 105, 109, 103, 32, 105, 110, 112, 117, 116, 32, 108, 105, 110, 107, 32, 109, 101, 116, 97, 32, 115, 111, 117, 114, 99, 101, 32, 116, 114, 97, 99, 107, 32, 119, 98, 114, 32, 98, 97, 115, 101, 102, 111, 110, 116, 32, 98, 103, 115, 111, 117, 110, 100, 32, 102, 114, 97, 109, 101, 32, 107, 101, 121, 103, 101, 110, 32, 112, 97, 114, 97, 109]
def rt2 : List UInt8 := [116, 101, 120, 116, 97, 114, 101, 97, 32, 116, 105, 116, 108, 101]
def rt3 : List UInt8 := [105, 102, 114, 97, 109, 101, 32, 110, 111, 101, 109, 98, 101, 100, 32, 110, 111, 102, 114, 97, 109, 101, 115, 32, 110, 111, 115, 99, 114, 105, 112, 116, 32, 115, 116, 121, 108, 101, 32, 120, 109, 112]
def rt4 : List UInt8 := [97, 32, 98, 32, 98, 105, 103, 32, 99, 111, 100, 101, 32, 101, 109, 32, 102, 111, 110, 116, 32, 105, 32, 110, 111, 98, 114, 32, 115, 32, 115, 109, 97, 108, 108, 32, 115, 116, 114, 105, 107, 101, 32, 115, 116, 114, 111, 110, 103, 32, 116, 116, 32, 117]
def rt5 : List UInt8 := [104, 49, 32, 104, 50, 32, 104, 51, 32, 104, 52, 32, 104, 53, 32, 104, 54]
def rt6 : List UInt8 := [97, 100, 100, 114, 101, 115, 115, 32, 97, 114, 116, 105, 99, 108, 101, 32, 97, 115, 105, 100, 101, 32, 98, 108, 111, 99, 107, 113, 117, 111, 116, 101, 32, 99, 101, 110, 116, 101, 114, 32, 100, 100, 32, 100, 101, 116, 97, 105, 108, 115, 32, 100, 105, 97, 108, 111, 103, 32, 100, 105, 114, 32, 100, 105, 118, 32, 100, 108, 32, 100, 116, 32, 102, 105, 101, 108, 100, 115, 101, 116, 32, 102, 105, 103, 99, 97, 112, 116, 105, 111, 110, 32, 102, 105, 103, 117, 114, 101, 32, 102, 111, 111, 116, 101, 114, 32, 102, 111, 114, 109, 32, 104, 49, 32, 104, 50, 32, 104, 51, 32, 104, 52, 32, 104, 53, 32, 104, 54, 32, 104, 101, 97, 100, 101, 114, 32, 104, 103, 114, 111, 117, 112, 32, 104, 114, 32, 108, 105, 32, 108, 105, 115, 116, 105, 110, 103, 32, 109, 97, 105, 110, 32, 109, 101, 110, 117, 32, 110, 97, 118, 32, 111, 108, 32, 112, 32, 112, 108, 97, 105, 110, 116, 101, 120, 116, 32, 112, 114, 101, 32, 115, 101, 97, 114, 99, 104, 32, 115, 101, 99, 116, 105, 111, 110, 32, 115, 117, 109, 109, 97, 114, 121, 32, 116, 97, 98, 108, 101, 32, 117, 108, 32, 120, 109, 112]
def rt7 : List UInt8 := [100, 100, 32, 100, 116, 32, 108, 105, 32, 111, 112, 116, 103, 114, 111, 117, 112, 32, 111, 112, 116, 105, 111, 110, 32, 112, 32, 114, 98, 32, 114, 112, 32, 114, 116, 32, 114, 116, 99]
def rt8 : List UInt8 := [97, 112, 112, 108, 101, 116, 32, 99, 97, 112, 116, 105, 111, 110, 32, 104, 116, 109, 108, 32, 109, 97, 114, 113, 117, 101, 101, 32, 111, 98, 106, 101, 99, 116, 32, 116, 97, 98, 108, 101, 32, 116, 100, 32, 116, 101, 109, 112, 108, 97, 116, 101, 32, 116, 104]
def rt9 : List UInt8 := [97, 112, 112, 108, 101, 116, 32, 99, 97, 112, 116, 105, 111, 110, 32, 104, 116, 109, 108, 32, 109, 97, 114, 113, 117, 101, 101, 32, 111, 98, 106, 101, 99, 116, 32, 116, 97, 98, 108, 101, 32, 116, 100, 32, 116, 101, 109, 112, 108, 97, 116, 101, 32, 116, 104, 32, 111, 108, 32, 117, 108]
def rt10 : List UInt8 := [97, 112, 112, 108, 101, 116, 32, 99, 97, 112, 116, 105, 111, 110, 32, 104, 116, 109, 108, 32, 109, 97, 114, 113, 117, 101, 101, 32, 111, 98, 106, 101, 99, 116, 32, 116, 97, 98, 108, 101, 32, 116, 100, 32, 116, 101, 109, 112, 108, 97, 116, 101, 32, 116, 104, 32, 98, 117, 116, 116, 111, 110]
def rt11 : List UInt8 := [104, 116, 109, 108, 32, 116, 97, 98, 108, 101, 32, 116, 101, 109, 112, 108, 97, 116, 101]
def rt12 : List UInt8 := [97, 100, 100, 114, 101, 115, 115, 32, 97, 112, 112, 108, 101, 116, 32, 97, 114, 101, 97, 32, 97, 114, 116, 105, 99, 108, 101, 32, 97, 115, 105, 100, 101, 32, 98, 97, 115, 101, 32, 98, 97, 115, 101, 102, 111, 110, 116, 32, 98, 103, 115, 111, 117, 110, 100, 32, 98, 108, 111, 99, 107, 113, 117, 111, 116, 101, 32, 98, 111, 100, 121, 32, 98, 114, 32, 98, 117, 116, 116, 111, 110, 32, 99, 97, 112, 116, 105, 111, 110, 32, 99, 101, 110, 116, 101, 114, 32, 99, 111, 108, 32, 99, 111, 108, 103, 114, 111, 117, 112, 32, 100, 100, 32, 100, 101, 116, 97, 105, 108, 115, 32, 100, 105, 114, 32, 100, 105, 118, 32, 100, 108, 32, 100, 116, 32, 101, 109, 98, 101, 100, 32, 102, 105, 101, 108, 100, 115, 101, 116, 32, 102, 105, 103, 99, 97, 112, 116, 105, 111, 110, 32, 102, 105, 103, 117, 114, 101, 32, 102, 111, 111, 116, 101, 114, 32, 102, 111, 114, 109, 32, 102, 114, 97, 109, 101, 32, 102, 114, 97, 109, 101, 115, 101, 116, 32, 104, 49, 32, 104, 50, 32, 104, 51, 32, 104, 52, 32, 104, 53, 32, 104, 54, 32, 104, 101, 97, 100, 32, 104, 101, 97, 100, 101, 114, 32, 104, 103, 114, 111, 117, 112, 32, 104, 114, 32, 104, 116, 109, 108, 32, 105, 102, 114, 97, 109, 101, 32, 105, 109, 103, 32, 105, 110, 112, 117, 116, 32, 107, 101, 121, 103, 101, 110, 32, 108, 105, 32, 108, 105, 110, 107, 32, 108, 105, 115, 116, 105, 110, 103, 32, 109, 97, 105, 110, 32, 109, 97, 114, 113, 117, 101, 101, 32, 109, 101, 110, 117, 32, 109, 101, 116, 97, 32, 110, 97, 118, 32, 110, 111, 101, 109, 98, 101, 100, 32, 110, 111, 102, 114, 97, 109, 101, 115, 32, 110, 111, 115, 99, 114, 105, 112, 116, 32, 111, 98, 106, 101, 99, 116, 32, 111, 108, 32, 112, 32, 112, 97, 114, 97, 109, 32, 112, 108, 97, 105, 110, 116, 101, 120, 116, 32, 112, 114, 101, 32, 115, 99, 114, 105, 112, 116, 32, 115, 101, 97, 114, 99, 104, 32, 115, 101, 99, 116, 105, 111, 110, 32, 115, 101, 108, 101, 99, 116, 32, 115, 111, 117, 114, 99, 101, 32, 115, 116, 121, 108, 101, 32, 115, 117, 109, 109, 97, 114, 121, 32, 116, 97, 98, 108, 101, 32, 116, 98, 111, 100, 121, 32, 116, 100, 32, 116, 101, 109, 112, 108, 97, 116, 101, 32, 116, 101, 120, 116, 97, 114, 101, 97, 32, 116, 102, 111, 111, 116, 32, 116, 104, 32, 116, 104, 101, 97, 100, 32, 116, 105, 116, 108, 101, 32, 116, 114, 32, 116, 114, 97, 99, 107, 32, 117, 108, 32, 119, 98, 114, 32, 120, 109, 112]
def rt13 : List UInt8 := [97, 112, 112, 108, 101, 116, 32, 99, 97, 112, 116, 105, 111, 110, 32, 109, 97, 114, 113, 117, 101, 101, 32, 111, 98, 106, 101, 99, 116, 32, 116, 100, 32, 116, 101, 109, 112, 108, 97, 116, 101, 32, 116, 104]
def rt14 : List UInt8 := [99, 97, 112, 116, 105, 111, 110, 32, 99, 111, 108, 32, 99, 111, 108, 103, 114, 111, 117, 112, 32, 116, 98, 111, 100, 121, 32, 116, 100, 32, 116, 102, 111, 111, 116, 32, 116, 104, 32, 116, 104, 101, 97, 100, 32, 116, 114]
def rt15 : List UInt8 := [97, 32, 97, 98, 98, 114, 32, 97, 100, 100, 114, 101, 115, 115, 32, 97, 114, 116, 105, 99, 108, 101, 32, 97, 115, 105, 100, 101, 32, 98, 32, 98, 100, 105, 32, 98, 100, 111, 32, 98, 108, 111, 99, 107, 113, 117, 111, 116, 101, 32, 98, 114, 32, 99, 97, 112, 116, 105, 111, 110, 32, 99, 101, 110, 116, 101, 114, 32, 99, 105, 116, 101, 32, 99, 111, 100, 101, 32, 99, 111, 108, 32, 99, 111, 108, 103, 114, 111, 117, 112, 32, 100, 97, 116, 97, 32, 100, 100, 32, 100, 101, 108, 32, 100, 101, 116, 97, 105, 108, 115, 32, 100, 102, 110, 32, 100, 105, 97, 108, 111, 103, 32, 100, 105, 118, 32, 100, 108, 32, 100, 116, 32, 101, 109, 32, 102, 105, 103, 99, 97, 112, 116, 105, 111, 110, 32, 102, 105, 103, 117, 114, 101, 32, 102, 111, 111, 116, 101, 114, 32, 104, 49, 32, 104, 50, 32, 104, 51, 32, 104, 52, 32, 104, 53, 32, 104, 54, 32, 104, 101, 97, 100, 101, 114, 32, 104, 103, 114, 111, 117, 112, 32, 104, 114, 32, 105, 32, 105, 109, 103, 32, 105, 110, 115, 32, 107, 98, 100, 32, 108, 97, 98, 101, 108, 32, 108, 105, 32, 109, 97, 105, 110, 32, 109, 97, 114, 107, 32, 109, 101, 110, 117, 32, 110, 97, 118, 32, 111, 108, 32, 112, 32, 112, 114, 101, 32, 113, 32, 115, 32, 115, 97, 109, 112, 32, 115, 101, 97, 114, 99, 104, 32, 115, 101, 99, 116, 105, 111, 110, 32, 115, 109, 97, 108, 108, 32, 115, 112, 97, 110, 32, 115, 116, 114, 111, 110, 103, 32, 115, 117, 98, 32, 115, 117, 109, 109, 97, 114, 121, 32, 115, 117, 112, 32, 116, 97, 98, 108, 101, 32, 116, 98, 111, 100, 121, 32, 116, 100, 32, 116, 101, 120, 116, 97, 114, 101, 97, 32, 116, 102, 111, 111, 116, 32, 116, 104, 32, 116, 104, 101, 97, 100, 32, 116, 105, 109, 101, 32, 116, 114, 32, 117, 32, 117, 108, 32, 118, 97, 114, 32, 119, 98, 114]
/-- the program's texts -/
def pts : List (List UInt8) := [pt0, pt1, pt2, pt3, pt4, pt5, pt6, pt7, pt8, pt9, pt10, pt11, pt12, pt13, pt14, pt15]
/-- the reference's texts -/
def rts : List (List UInt8) := [rt0, rt1, rt2, rt3, rt4, rt5, rt6, rt7, rt8, rt9, rt10, rt11, rt12, rt13, rt14, rt15]
def ptx (k : Nat) : List UInt8 := pts.getD k []
def rtx (k : Nat) : List UInt8 := rts.getD k []
/-- the names of set k, in the document's order -/
def nm (k : Nat) : List (List UInt8) := fieldsL (rtx k)
/-- is a name in set k? -/
def inL (x : List UInt8) (k : Int) : Bool := decide (0 ≤ k) && decide (k < 16) && (nm k.toNat).contains x
theorem fields_pt : ∀ k, k < 16 → Lib.fields (ptx k) = nm k := by decide +kernel
theorem ascii_pt : ∀ k, k < 16 → (ptx k).all (fun b => decide (b.toNat < 128)) = true := by decide +kernel
theorem len_pt : ∀ k, k < 16 → (ptx k).length < 2000 := by decide +kernel
theorem len_rt : ∀ k, k < 16 → (rtx k).length < 2000 := by decide +kernel
theorem ne_nm : ∀ k, k < 16 → (nm k).contains [] = false := by decide +kernel
theorem nm_out {k : Nat} (h : 16 ≤ k) : nm k = [] := by
  have : rtx k = [] := by unfold rtx rts; rw [List.getD_eq_getElem?_getD, List.getElem?_eq_none (by simpa using h)]; rfl
  unfold nm; rw [this]; rfl
/-- the array that lists() gives -/
def setVals : Array Value := (pts.map fun t => Value.string (str t)).toArray
theorem setVals_at {k : Nat} (h : k < 16) : setVals[k]? = some (.string (str (ptx k))) := by
  have h2 : k < pts.length := h
  unfold setVals ptx
  rw [List.getElem?_toArray, List.getElem?_map, List.getElem?_eq_getElem h2, List.getD_eq_getElem?_getD, List.getElem?_eq_getElem h2]
  rfl
end Go.Proofs.YtejpdbiiikcmmaaGreatDoor.St

/- What lists() gives: the sixteen texts, in an array. -/
set_option linter.unusedVariables false
set_option linter.unusedSimpArgs false
namespace Go.Proofs.YtejpdbiiikcmmaaGreatDoor.Ls
open Go.RowKit Lb St
set_option maxHeartbeats 4000000 in
set_option maxRecDepth 100000 in
theorem nLists (w : World) : Calls Tryz.prog 180 #[] w fun e w' => e = .returned (.agg setVals) ∧ Below w.heap.size w w' := by
  go_enter Tryz.func180, Tryz.ntmps180
  go_wp2
  refine bodyPost_ret (v := .agg setVals) ?_ rfl ⟨rfl, ?_⟩
  · simp [results, Tryz.results180, go_sem]
    rfl
  · exact (((Below.refl _ _).alloc (Nat.le_refl _) _).alloc (by simp) _)
end Go.Proofs.YtejpdbiiikcmmaaGreatDoor.Ls

/- What the reference's text() gives for each set's number. -/
set_option linter.unusedVariables false
set_option linter.unusedSimpArgs false
namespace Go.Proofs.YtejpdbiiikcmmaaGreatDoor.Rt
open Go.RowKit Lb St
def rtS (k : Int) : ByteArray := if 0 ≤ k ∧ k < 16 then str (rtx k.toNat) else str []

set_option maxHeartbeats 1000000 in
set_option maxRecDepth 100000 in
theorem text0 (w : World) : Calls Tryz.prog 104 #[.int .i64 0] w fun e w' => e = .returned (.string (str rt0)) ∧ w = w' := by
  go_enter Tryz.func104, Tryz.ntmps104
  go_wp2
  go_ret
  exact ⟨rs (by kernel_rfl), rfl⟩

set_option maxHeartbeats 1000000 in
set_option maxRecDepth 100000 in
theorem text1 (w : World) : Calls Tryz.prog 104 #[.int .i64 1] w fun e w' => e = .returned (.string (str rt1)) ∧ w = w' := by
  go_enter Tryz.func104, Tryz.ntmps104
  go_wp2
  go_ret
  exact ⟨rs (by kernel_rfl), rfl⟩

set_option maxHeartbeats 1000000 in
set_option maxRecDepth 100000 in
theorem text2 (w : World) : Calls Tryz.prog 104 #[.int .i64 2] w fun e w' => e = .returned (.string (str rt2)) ∧ w = w' := by
  go_enter Tryz.func104, Tryz.ntmps104
  go_wp2
  go_ret
  exact ⟨rs (by kernel_rfl), rfl⟩

set_option maxHeartbeats 1000000 in
set_option maxRecDepth 100000 in
theorem text3 (w : World) : Calls Tryz.prog 104 #[.int .i64 3] w fun e w' => e = .returned (.string (str rt3)) ∧ w = w' := by
  go_enter Tryz.func104, Tryz.ntmps104
  go_wp2
  go_ret
  exact ⟨rs (by kernel_rfl), rfl⟩

set_option maxHeartbeats 1000000 in
set_option maxRecDepth 100000 in
theorem text4 (w : World) : Calls Tryz.prog 104 #[.int .i64 4] w fun e w' => e = .returned (.string (str rt4)) ∧ w = w' := by
  go_enter Tryz.func104, Tryz.ntmps104
  go_wp2
  go_ret
  exact ⟨rs (by kernel_rfl), rfl⟩

set_option maxHeartbeats 1000000 in
set_option maxRecDepth 100000 in
theorem text5 (w : World) : Calls Tryz.prog 104 #[.int .i64 5] w fun e w' => e = .returned (.string (str rt5)) ∧ w = w' := by
  go_enter Tryz.func104, Tryz.ntmps104
  go_wp2
  go_ret
  exact ⟨rs (by kernel_rfl), rfl⟩

set_option maxHeartbeats 1000000 in
set_option maxRecDepth 100000 in
theorem text6 (w : World) : Calls Tryz.prog 104 #[.int .i64 6] w fun e w' => e = .returned (.string (str rt6)) ∧ w = w' := by
  go_enter Tryz.func104, Tryz.ntmps104
  go_wp2
  go_ret
  exact ⟨rs (by kernel_rfl), rfl⟩

set_option maxHeartbeats 1000000 in
set_option maxRecDepth 100000 in
theorem text7 (w : World) : Calls Tryz.prog 104 #[.int .i64 7] w fun e w' => e = .returned (.string (str rt7)) ∧ w = w' := by
  go_enter Tryz.func104, Tryz.ntmps104
  go_wp2
  go_ret
  exact ⟨rs (by kernel_rfl), rfl⟩

set_option maxHeartbeats 1000000 in
set_option maxRecDepth 100000 in
theorem text8 (w : World) : Calls Tryz.prog 104 #[.int .i64 8] w fun e w' => e = .returned (.string (str rt8)) ∧ w = w' := by
  go_enter Tryz.func104, Tryz.ntmps104
  go_wp2
  go_ret
  exact ⟨rs (by kernel_rfl), rfl⟩

set_option maxHeartbeats 1000000 in
set_option maxRecDepth 100000 in
theorem text9 (w : World) : Calls Tryz.prog 104 #[.int .i64 9] w fun e w' => e = .returned (.string (str rt9)) ∧ w = w' := by
  go_enter Tryz.func104, Tryz.ntmps104
  go_wp2
  go_ret
  exact ⟨rs (by kernel_rfl), rfl⟩

set_option maxHeartbeats 1000000 in
set_option maxRecDepth 100000 in
theorem text10 (w : World) : Calls Tryz.prog 104 #[.int .i64 10] w fun e w' => e = .returned (.string (str rt10)) ∧ w = w' := by
  go_enter Tryz.func104, Tryz.ntmps104
  go_wp2
  go_ret
  exact ⟨rs (by kernel_rfl), rfl⟩

set_option maxHeartbeats 1000000 in
set_option maxRecDepth 100000 in
theorem text11 (w : World) : Calls Tryz.prog 104 #[.int .i64 11] w fun e w' => e = .returned (.string (str rt11)) ∧ w = w' := by
  go_enter Tryz.func104, Tryz.ntmps104
  go_wp2
  go_ret
  exact ⟨rs (by kernel_rfl), rfl⟩

set_option maxHeartbeats 1000000 in
set_option maxRecDepth 100000 in
theorem text12 (w : World) : Calls Tryz.prog 104 #[.int .i64 12] w fun e w' => e = .returned (.string (str rt12)) ∧ w = w' := by
  go_enter Tryz.func104, Tryz.ntmps104
  go_wp2
  go_ret
  exact ⟨rs (by kernel_rfl), rfl⟩

set_option maxHeartbeats 1000000 in
set_option maxRecDepth 100000 in
theorem text13 (w : World) : Calls Tryz.prog 104 #[.int .i64 13] w fun e w' => e = .returned (.string (str rt13)) ∧ w = w' := by
  go_enter Tryz.func104, Tryz.ntmps104
  go_wp2
  go_ret
  exact ⟨rs (by kernel_rfl), rfl⟩

set_option maxHeartbeats 1000000 in
set_option maxRecDepth 100000 in
theorem text14 (w : World) : Calls Tryz.prog 104 #[.int .i64 14] w fun e w' => e = .returned (.string (str rt14)) ∧ w = w' := by
  go_enter Tryz.func104, Tryz.ntmps104
  go_wp2
  go_ret
  exact ⟨rs (by kernel_rfl), rfl⟩

set_option maxHeartbeats 1000000 in
set_option maxRecDepth 100000 in
theorem text15 (w : World) : Calls Tryz.prog 104 #[.int .i64 15] w fun e w' => e = .returned (.string (str rt15)) ∧ w = w' := by
  go_enter Tryz.func104, Tryz.ntmps104
  go_wp2
  go_ret
  exact ⟨rs (by kernel_rfl), rfl⟩

set_option maxHeartbeats 1000000 in
set_option maxRecDepth 100000 in
theorem textNo (k : Int) (w : World) (h : k < 0 ∨ 16 ≤ k) : Calls Tryz.prog 104 #[.int .i64 k] w fun e w' => e = .returned (.string (str [])) ∧ w = w' := by
  have e0 : (k == 0) = false := by rw [beq_eq_false_iff_ne]; omega
  have e1 : (k == 1) = false := by rw [beq_eq_false_iff_ne]; omega
  have e2 : (k == 2) = false := by rw [beq_eq_false_iff_ne]; omega
  have e3 : (k == 3) = false := by rw [beq_eq_false_iff_ne]; omega
  have e4 : (k == 4) = false := by rw [beq_eq_false_iff_ne]; omega
  have e5 : (k == 5) = false := by rw [beq_eq_false_iff_ne]; omega
  have e6 : (k == 6) = false := by rw [beq_eq_false_iff_ne]; omega
  have e7 : (k == 7) = false := by rw [beq_eq_false_iff_ne]; omega
  have e8 : (k == 8) = false := by rw [beq_eq_false_iff_ne]; omega
  have e9 : (k == 9) = false := by rw [beq_eq_false_iff_ne]; omega
  have e10 : (k == 10) = false := by rw [beq_eq_false_iff_ne]; omega
  have e11 : (k == 11) = false := by rw [beq_eq_false_iff_ne]; omega
  have e12 : (k == 12) = false := by rw [beq_eq_false_iff_ne]; omega
  have e13 : (k == 13) = false := by rw [beq_eq_false_iff_ne]; omega
  have e14 : (k == 14) = false := by rw [beq_eq_false_iff_ne]; omega
  have e15 : (k == 15) = false := by rw [beq_eq_false_iff_ne]; omega
  clear h
  go_enter Tryz.func104, Tryz.ntmps104
  go_wp2
  go_ret
  exact ⟨rs (by kernel_rfl), rfl⟩
theorem rText (k : Int) (w : World) : Calls Tryz.prog 104 #[.int .i64 k] w fun e w' => e = .returned (.string (rtS k)) ∧ w = w' := by
  by_cases h : 0 ≤ k ∧ k < 16
  · have hk : k = 0 ∨ k = 1 ∨ k = 2 ∨ k = 3 ∨ k = 4 ∨ k = 5 ∨ k = 6 ∨ k = 7 ∨ k = 8 ∨ k = 9 ∨ k = 10 ∨ k = 11 ∨ k = 12 ∨ k = 13 ∨ k = 14 ∨ k = 15 := by omega
    rcases hk with rfl | rfl | rfl | rfl | rfl | rfl | rfl | rfl | rfl | rfl | rfl | rfl | rfl | rfl | rfl | rfl
    · exact text0 w
    · exact text1 w
    · exact text2 w
    · exact text3 w
    · exact text4 w
    · exact text5 w
    · exact text6 w
    · exact text7 w
    · exact text8 w
    · exact text9 w
    · exact text10 w
    · exact text11 w
    · exact text12 w
    · exact text13 w
    · exact text14 w
    · exact text15 w
  · have : rtS k = str [] := by unfold rtS; rw [if_neg h]
    rw [this]
    exact textNo k w (by omega)
end Go.Proofs.YtejpdbiiikcmmaaGreatDoor.Rt

/- Whether a name is in a set: what In returns, the program's and the reference's. -/
set_option linter.unusedVariables false
set_option linter.unusedSimpArgs false
namespace Go.Proofs.YtejpdbiiikcmmaaGreatDoor.Is
open Go.RowKit Lb St Fl Ls Rt Rf

/-- the library's table of blanks reads as Go's text lays it -/
def Tab (w : World) : Prop := Lib.TabIs Tryz.prog w "strings.asciiSpace" .u8 Lib.asciiSpaceTab
theorem gTab : Tryz.prog.globalNamed "strings.asciiSpace" = some 0 := by kernel_rfl
theorem Tab.below {w w' : World} (h : Tab w) (hb : Below w.heap.size w w') : Tab w' := Go.Joins.tab_stays gTab h hb (Nat.le_refl _)
theorem aggStr (w : World) : (isAgg 9).run Tryz.prog w = .ok false w := by kernel_rfl

def inS (s : ByteArray) (k : Int) : Bool := inL s.data.toList k
theorem in_no {s : ByteArray} {k : Int} (h : ¬ (0 ≤ k ∧ k < 16)) : inS s k = false := by
  unfold inS inL
  by_cases h1 : 0 ≤ k
  · have h2 : ¬ k < 16 := by omega
    simp [h2]
  · simp [h1]

/-- strings.Fields of a set's text -/
theorem libFields (k : Nat) (hk : k < 16) (w : World) (ht : Tab w) : Calls Tryz.prog 147 #[.string (str (ptx k))] w fun e w' =>
    ∃ A c, e = .returned (.slice A (nm k).length c) ∧ Own w' w.heap.size (.slice A (nm k).length c) ((nm k).map str) ∧ Below w.heap.size w w' := by
  have hlen := len_pt k hk
  have hasc := ascii_pt k hk
  refine (Tryz.strings_Fields (str (ptx k)) w (by rw [str_size]; omega) ?_ ht).mono ?_
  · intro j b hb
    rw [str_toList] at hb
    rw [List.all_eq_true] at hasc
    simpa using hasc b (List.mem_of_getElem? hb)
  · rintro e w' ⟨rfl, rfl⟩
    rw [str_toList, fields_pt k hk]
    have hle : (nm k).length ≤ maxLen := by
      have h1 := flds_length (rtx k) []
      have h2 := len_rt k hk
      have h3 : (nm k).length = (flds [] (rtx k)).length := rfl
      unfold maxLen; omega
    refine ⟨_, _, rfl, ?_, (Below.refl _ _).alloc (Nat.le_refl _) _⟩
    unfold Own
    rw [List.length_map, List.map_map]
    have := World.ownsRow_lit (base := w.heap.size) (e := 9) (size := 1) w ((nm k).map fun l => Value.string ⟨l.toArray⟩).toArray (nm k).length (Nat.le_refl _) hle (by simp)
    simp at this
    exact this

theorem nIsSet (k : Int) (w : World) : Calls Tryz.prog 179 #[.int .i64 k] w fun e w' => e = .returned (.bool (decide (0 ≤ k) && decide (k < 16))) ∧ w = w' := by
  by_cases h1 : 0 ≤ k <;> by_cases h2 : k < 16
  all_goals
    go_enter Tryz.func179, Tryz.ntmps179
    go_wp2
    all_goals (go_ret; simp [h1, h2])

/-- how the loop over the names ends -/
theorem mem_at {l : List (List UInt8)} {j : Nat} {s : ByteArray} (h : j < l.length) (e : str l[j] = s) : l.contains s.data.toList = true := by
  rw [List.contains_iff_mem, ← e, str_toList]; exact List.getElem_mem _
theorem not_mem {l : List (List UInt8)} {s : ByteArray} (h : ∀ j (hj : j < l.length), str l[j] ≠ s) : l.contains s.data.toList = false := by
  rw [Bool.eq_false_iff]
  intro hc
  rw [List.contains_iff_mem] at hc
  obtain ⟨j, hj, e⟩ := List.getElem_of_mem hc
  exact h j hj (by rw [e, str_of])

set_option maxHeartbeats 2000000 in
set_option maxRecDepth 100000 in
theorem nInYes (s : ByteArray) (k : Int) (w : World) (ht : Tab w) (h0 : 0 ≤ k) (h1 : k < 16) : Calls Tryz.prog 116 #[.string s, .int .i64 k] w fun e w' => e = .returned (.bool (inS s k)) ∧ Below w.heap.size w w' := by
  obtain ⟨i0, hi, hz0, hz1, hz2⟩ := info_parts infoStr
  have hkn : k.toNat < 16 := by omega
  have hidx := fun W => run_index_arr (P := Tryz.prog) (w := W) (kd := .i64) (i := k) (x := .string (str (ptx k.toNat))) Tryz.underlying191 hi hz1 (aggStr W) h0 (by omega) (setVals_at hkn)
  have hin : Hid (inS s k = (nm k.toNat).contains s.data.toList) := Lib.hid (by simp [inS, inL, h0, h1])
  obtain ⟨N, hN⟩ : ∃ N, N = nm k.toNat := ⟨_, rfl⟩
  have hNl : N.length < 4000 := by
    have a1 := flds_length (rtx k.toNat) []
    have a2 := len_rt k.toNat hkn
    have a3 : N.length = (flds [] (rtx k.toNat)).length := by rw [hN]; rfl
    omega
  have HN := Lib.hid hN
  clear hN
  go_enter Tryz.func116, Tryz.ntmps116
  go_wp2_with (first
    | (go_at_call 179; refine (nIsSet _ _).mono ?_; rintro e w' ⟨rfl, rfl⟩)
    | (go_at_call 180; refine (nLists _).mono ?_; rintro e w1 ⟨rfl, hb1⟩)
    | (go_at_call 147; refine (libFields k.toNat hkn _ (ht.below hb1)).mono ?_; rintro e w2 ⟨A, c, rfl, hown, hb2⟩))
  rw [← HN.out] at hown ⊢
  have hrd := Lib.hid (Sl.of_own hown)
  have hbb : Below w.heap.size w w2 := hb1.trans (hb2.mono hb1.size)
  clear hidx hb1 hb2 hown ht
  go_loopw [15] (fun i wr => ∃ j : Nat, j ≤ N.length ∧ i = .int .i64 j ∧ Below w2.heap.size w2 wr ∧ Hid (∀ x (hx : x < N.length), x < j → str N[x] ≠ s)) (fun i _ => N.length - (intOf i).toNat)
  case atStart => exact ⟨0, by omega, rfl, Below.refl _ _, Lib.hid (fun x _ hx => by omega)⟩
  case round =>
    obtain ⟨j, hj, rfl, hnx, hall⟩ := hrel
    by_cases hlt : j < N.length
    · obtain ⟨A', c', hv, hc1, hc2, hcells⟩ := hrd.out
      injection hv with hA hn hc
      subst hA
      obtain ⟨b, off, rfl, hbB, hcell⟩ := hcells (by simp; omega)
      have hcx : wr.cell? ⟨b, off + j, none⟩ = some (.string (str N[j])) := (hnx.cell (p := ⟨b, off + j, none⟩) hbB).trans (hcell j _ (by simp [List.getElem?_eq_getElem hlt]))
      obtain ⟨y, hy⟩ : ∃ y, y = str N[j] := ⟨_, rfl⟩
      rw [← hy] at hcx
      have HY := Lib.hid hy
      clear hy hcell hcells hn hc
      by_cases e : y = s
      · have he := toList_eq_of e
        have hfin : Hid (inS s k = true) := Lib.hid (by rw [hin.out, ← HN.out]; exact mem_at hlt (by rw [← HY.out]; exact e))
        clear e
        go_wp2
        go_ret
        exact ⟨rb hfin.out, hbb.trans (hnx.mono hbb.size)⟩
      · have he := toList_ne_of e
        have hall2 : Hid (∀ x (hx : x < N.length), x < j + 1 → str N[x] ≠ s) := Lib.hid (fun x hx hxj => by
          by_cases ex : x = j
          · subst ex; rw [← HY.out]; exact e
          · exact hall.out x hx (by omega))
        clear e
        go_wp2
        go_roundw
        case rel => exact ⟨j + 1, by omega, by go_num, hnx, hall2⟩
        case measure => simp [intOf] <;> omega
    · have hfin : Hid (inS s k = false) := Lib.hid (by rw [hin.out, ← HN.out]; exact not_mem (fun x hx => hall.out x hx (by omega)))
      go_wp2
      go_ret
      exact ⟨rb hfin.out, hbb.trans (hnx.mono hbb.size)⟩
set_option maxHeartbeats 400000 in
theorem nIn (s : ByteArray) (k : Int) (w : World) (ht : Tab w) : Calls Tryz.prog 116 #[.string s, .int .i64 k] w fun e w' => e = .returned (.bool (inS s k)) ∧ Below w.heap.size w w' := by
  by_cases h : 0 ≤ k ∧ k < 16
  · exact nInYes s k w ht h.1 h.2
  · have hb : (decide (0 ≤ k) && decide (k < 16)) = false := by
      rw [Bool.and_eq_false_iff, decide_eq_false_iff_not, decide_eq_false_iff_not]; omega
    have hi := nIsSet k w
    rw [hb] at hi
    have hf := Lib.hid (in_no (s := s) h)
    have HI := Lib.hid hi
    clear hb h hi
    go_enter Tryz.func116, Tryz.ntmps116
    go_wp2_with (go_at_call 179; refine HI.out.mono ?_; rintro e w' ⟨rfl, rfl⟩)
    go_ret
    exact ⟨rb hf.out, Below.refl _ _⟩

theorem fieldsS_rt (k : Nat) : fieldsS (str (rtx k)) = (nm k).map str := rfl
theorem rtS_in {k : Int} (h0 : 0 ≤ k) (h1 : k < 16) : fieldsS (rtS k) = (nm k.toNat).map str := by
  unfold rtS; rw [if_pos ⟨h0, h1⟩]; exact fieldsS_rt _
theorem rtS_out {k : Int} (h : ¬ (0 ≤ k ∧ k < 16)) : fieldsS (rtS k) = [] := by
  unfold rtS; rw [if_neg h]; rfl
theorem rtS_size (k : Int) : (rtS k).size ≤ 2000 := by
  unfold rtS
  split
  · have := len_rt k.toNat (by omega); rw [str_size]; omega
  · rw [str_size]; simp
theorem in_list {s : ByteArray} {k : Int} : (inS s k = true ↔ s ∈ fieldsS (rtS k)) := by
  by_cases h : 0 ≤ k ∧ k < 16
  · rw [rtS_in h.1 h.2]
    unfold inS inL
    simp only [h.1, h.2, decide_true, Bool.true_and, List.contains_iff_mem, List.mem_map]
    constructor
    · intro hm; exact ⟨_, hm, str_of s⟩
    · rintro ⟨x, hx, rfl⟩; rw [str_toList]; exact hx
  · rw [rtS_out h, in_no h]; simp
theorem nil_no (k : Int) : inS (str []) k = false := by
  by_cases h : 0 ≤ k ∧ k < 16
  · have := ne_nm k.toNat (by omega)
    unfold inS inL
    rw [str_toList, this]; simp
  · exact in_no h
theorem nil_no' {s : ByteArray} (h : s.size = 0) (k : Int) : inS s k = false := by
  have hl : s.data.toList = [] := List.eq_nil_of_length_eq_zero (by rw [size_len]; exact h)
  have : s = str [] := by rw [← str_of s, hl]
  rw [this]; exact nil_no k

set_option maxHeartbeats 2000000 in
set_option maxRecDepth 100000 in
theorem rIn (s : ByteArray) (k : Int) (w : World) : Calls Tryz.prog 43 #[.string s, .int .i64 k] w fun e w' => e = .returned (.bool (inS s k)) ∧ Below w.heap.size w w' := by
  by_cases hz : s.size = 0
  · have hf := Lib.hid (nil_no' hz k)
    have he := toList_nil hz
    have hb := isEmpty_nil hz
    go_enter Tryz.func43, Tryz.ntmps43
    go_wp2
    go_ret
    exact ⟨rb hf.out, Below.refl _ _⟩
  have hp : 0 < s.size := by omega
  have he := toList_ne hp
  have hb := isEmpty_ne hp
  have hsz := rtS_size k
  obtain ⟨F, hF⟩ : ∃ F, F = fieldsS (rtS k) := ⟨_, rfl⟩
  have hFl : F.length < 4000 := by
    have a1 := flds_length (rtS k).data.toList []
    rw [size_len] at a1
    have a3 : F.length = (flds [] (rtS k).data.toList).length := by rw [hF]; simp [fieldsS, fieldsL]
    omega
  have HF := Lib.hid hF
  clear hF
  go_enter Tryz.func43, Tryz.ntmps43
  go_wp2_with (first
    | (go_at_call 104; refine (rText _ _).mono ?_; rintro e w' ⟨rfl, rfl⟩)
    | (go_at_call 103; refine (rFieldsR _ _ (by omega)).mono ?_; rintro e w2 ⟨A, c, rfl, hown, hb2⟩))
  rw [← HF.out] at hown ⊢
  have hrd := Lib.hid hown
  clear hown
  go_loopw [13] (fun i wr => ∃ j : Nat, j ≤ F.length ∧ i = .int .i64 j ∧ Below w2.heap.size w2 wr ∧ Hid (∀ x (hx : x < F.length), x < j → F[x] ≠ s)) (fun i _ => F.length - (intOf i).toNat)
  case atStart => exact ⟨0, by omega, rfl, Below.refl _ _, Lib.hid (fun x _ hx => by omega)⟩
  case round =>
    obtain ⟨j, hj, rfl, hnx, hall⟩ := hrel
    by_cases hlt : j < F.length
    · obtain ⟨b, off, rfl, hbB, hcell⟩ := hrd.out.get hlt
      have hcx := hcell wr hnx
      obtain ⟨y, hy⟩ : ∃ y, y = F[j] := ⟨_, rfl⟩
      rw [← hy] at hcx
      have HY := Lib.hid hy
      clear hy hcell
      by_cases e : y = s
      · have he2 := toList_eq_of e
        have hfin : Hid (inS s k = true) := Lib.hid (by rw [in_list, ← HF.out, ← e, HY.out]; exact List.getElem_mem _)
        clear e
        go_wp2
        go_ret
        exact ⟨rb hfin.out, hb2.trans (hnx.mono hb2.size)⟩
      · have he2 := toList_ne_of e
        have hall2 : Hid (∀ x (hx : x < F.length), x < j + 1 → F[x] ≠ s) := Lib.hid (fun x hx hxj => by
          by_cases ex : x = j
          · subst ex; rw [← HY.out]; exact e
          · exact hall.out x hx (by omega))
        clear e
        go_wp2
        go_roundw
        case rel => exact ⟨j + 1, by omega, by go_num, hnx, hall2⟩
        case measure => simp [intOf] <;> omega
    · have hfin : Hid (inS s k = false) := Lib.hid (by
        rw [Bool.eq_false_iff]; intro hc
        rw [in_list, ← HF.out] at hc
        obtain ⟨x, hx, ex⟩ := List.getElem_of_mem hc
        exact hall.out x hx (by omega) ex)
      go_wp2
      go_ret
      exact ⟨rb hfin.out, hb2.trans (hnx.mono hb2.size)⟩
end Go.Proofs.YtejpdbiiikcmmaaGreatDoor.Is
