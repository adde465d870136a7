/- Texts put together (merge.py). -/
import Derived.Test.YtgnnakibcjonbaaGreatDoorM6
/- Chapter 16: plans of the regions that draw their order. -/
namespace Go.Proofs.YtgnnakibcjonbaaGreatDoor.VE
open Go Go.RowKit
def pl3 : List (Nat × List (Nat × List Nat)) := [(8, [(0, []), (1, []), (3, []), (4, []), (5, []), (2, [3, 4, 5]), (6, [3, 4]), (7, []), (8, []), (9, []), (10, []), (11, []), (12, [])]), (9, [(0, []), (1, []), (3, []), (4, []), (5, []), (2, [3, 4, 5]), (6, [3, 4]), (7, []), (8, []), (9, []), (10, []), (11, []), (12, [10]), (13, [])]), (23, [(0, []), (1, []), (2, []), (3, []), (4, []), (5, []), (6, []), (7, []), (8, []), (9, []), (10, []), (11, []), (12, []), (13, []), (14, []), (15, []), (16, []), (17, []), (18, []), (19, []), (20, []), (21, []), (22, []), (23, []), (24, []), (25, []), (26, [11, 12, 13, 14, 15, 16, 17, 18, 19, 20]), (27, []), (28, [])]), (26, [(0, []), (1, []), (3, []), (4, []), (5, []), (6, []), (7, []), (2, [3, 4, 5, 6, 7]), (8, []), (9, []), (10, []), (11, []), (12, []), (13, []), (14, []), (15, [])]), (29, [(0, []), (1, []), (2, []), (3, []), (4, []), (5, []), (6, []), (7, []), (8, []), (9, []), (10, []), (11, []), (12, []), (13, []), (14, [])]), (33, [(0, []), (1, []), (2, []), (3, []), (4, []), (5, []), (6, []), (7, []), (8, []), (9, []), (10, []), (11, []), (12, []), (13, []), (14, []), (15, []), (16, []), (17, []), (18, []), (19, []), (20, [13, 14, 15]), (21, []), (22, []), (23, [])])]
def pl5 : List (Nat × List (Nat × List Nat)) := [(5, [(0, []), (1, []), (3, []), (4, []), (5, []), (2, [3, 4, 5]), (6, [3, 4]), (7, []), (8, []), (9, []), (10, []), (11, []), (12, [])]), (6, [(0, []), (1, []), (3, []), (4, []), (5, []), (2, [3, 4, 5]), (6, [3, 4]), (7, []), (8, []), (9, []), (10, []), (11, []), (12, [10]), (13, [])]), (12, [(0, []), (1, []), (2, []), (3, []), (4, []), (5, []), (7, []), (6, [0, 1, 7]), (8, []), (9, []), (10, [])])]
def pl6 : List (Nat × List (Nat × List Nat)) := [(5, [(0, []), (1, []), (3, []), (4, []), (5, []), (2, [3, 4, 5]), (6, [3, 4]), (7, []), (8, []), (9, []), (10, []), (11, []), (12, [])]), (9, [(0, []), (1, []), (2, []), (3, []), (4, []), (5, []), (6, []), (7, []), (8, []), (9, []), (13, []), (10, [3, 4, 5, 13]), (11, []), (12, []), (14, [3]), (15, []), (16, []), (17, [])])]
def pl7 : List (Nat × List (Nat × List Nat)) := [(5, [(0, []), (1, []), (3, []), (4, []), (5, []), (2, [3, 4, 5]), (6, [3, 4]), (7, []), (8, []), (9, []), (10, []), (11, []), (12, [])]), (6, [(0, []), (1, []), (3, []), (4, []), (5, []), (2, [3, 4, 5]), (6, [3, 4]), (7, []), (8, []), (9, []), (10, []), (11, []), (12, [10]), (13, [])]), (9, [(0, []), (1, []), (3, []), (4, []), (5, []), (2, [3, 4, 5]), (6, []), (7, []), (8, []), (9, []), (10, []), (11, []), (12, [9, 10]), (13, []), (14, [])]), (12, [(0, []), (1, []), (3, []), (4, []), (2, [3, 4]), (5, []), (6, []), (7, []), (8, []), (9, []), (10, [])]), (16, [(0, []), (1, []), (3, []), (4, []), (5, []), (6, []), (2, [3, 4, 5, 6]), (7, []), (8, []), (9, []), (10, []), (11, []), (12, []), (13, [10, 11]), (14, []), (15, [])]), (21, [(0, []), (1, []), (3, []), (4, []), (5, []), (6, []), (7, []), (8, []), (9, []), (2, [3, 4, 5, 6, 7, 8, 9]), (10, []), (11, []), (12, []), (13, []), (14, []), (15, []), (16, [13, 14]), (17, []), (18, [])])]
def pl8 : List (Nat × List (Nat × List Nat)) := [(5, [(0, []), (1, []), (3, []), (4, []), (5, []), (2, [3, 4, 5]), (6, []), (7, []), (8, []), (9, []), (10, []), (11, []), (12, [9, 10]), (13, []), (14, [])]), (6, [(0, []), (1, []), (3, []), (4, []), (5, []), (6, []), (2, [3, 4, 5, 6]), (7, [3, 4, 5]), (8, []), (9, []), (10, []), (11, []), (12, []), (13, []), (14, []), (15, [])])]
def pl9 : List (Nat × List (Nat × List Nat)) := [(5, [(0, []), (1, []), (3, []), (4, []), (5, []), (2, [3, 4, 5]), (6, []), (7, []), (8, []), (9, []), (10, []), (11, []), (12, [9, 10]), (13, []), (14, [])]), (10, [(0, []), (1, []), (3, []), (4, []), (5, []), (2, [3, 4, 5]), (6, [3, 4]), (7, []), (8, []), (9, []), (10, []), (11, []), (12, [])]), (13, [(0, []), (1, []), (3, []), (4, []), (5, []), (2, [3, 4, 5]), (6, []), (7, []), (8, []), (9, []), (10, []), (11, []), (12, []), (13, [])]), (20, [(0, []), (1, []), (3, []), (4, []), (5, []), (6, []), (7, []), (2, [3, 4, 5, 6, 7]), (8, []), (9, []), (10, []), (11, []), (12, []), (13, []), (14, []), (15, [])]), (24, [(0, []), (1, []), (3, []), (4, []), (5, []), (6, []), (7, []), (8, []), (9, []), (2, [3, 4, 5, 6, 7, 8, 9]), (10, []), (11, []), (12, []), (13, []), (14, []), (15, [])])]
def pl16 : List (Nat × List (Nat × List Nat)) := [(1, [(0, []), (1, []), (3, []), (4, []), (2, [3, 4]), (6, []), (5, [6]), (7, []), (8, []), (9, [])])]
def pl21 : List (Nat × List (Nat × List Nat)) := [(3, [(0, []), (1, []), (2, []), (3, []), (4, []), (5, []), (6, [])]), (7, [(0, []), (1, []), (2, []), (3, []), (4, []), (5, []), (6, []), (7, []), (8, []), (9, []), (10, []), (11, []), (12, []), (13, []), (14, []), (15, []), (16, []), (17, []), (18, [])])]
def pl28 : List (Nat × List (Nat × List Nat)) := [(9, [(0, []), (1, []), (2, []), (3, []), (4, []), (5, []), (6, []), (7, []), (8, []), (9, []), (10, []), (11, []), (12, []), (13, []), (14, [])])]
def pl30 : List (Nat × List (Nat × List Nat)) := [(9, [(0, []), (1, []), (2, []), (3, []), (4, []), (5, []), (6, []), (7, []), (8, []), (9, [])])]
def pl32 : List (Nat × List (Nat × List Nat)) := [(6, [(0, []), (1, []), (2, []), (3, []), (4, []), (5, []), (6, []), (7, []), (8, [])])]
def pl37 : List (Nat × List (Nat × List Nat)) := [(5, [(0, []), (1, []), (2, []), (3, []), (4, []), (5, []), (6, []), (7, [0, 1]), (8, []), (9, []), (10, [])])]
def pl38 : List (Nat × List (Nat × List Nat)) := [(3, [(0, []), (1, []), (2, []), (3, []), (4, []), (5, []), (6, []), (7, []), (8, []), (9, [1, 2, 3, 4, 5, 6, 7, 8]), (10, []), (11, [])]), (4, [(0, []), (1, []), (2, []), (3, []), (4, []), (5, [1, 2, 3, 4]), (6, []), (7, [])])]
def pl41 : List (Nat × List (Nat × List Nat)) := [(6, [(0, []), (1, []), (2, []), (3, []), (4, []), (5, []), (6, []), (7, []), (8, [0, 1, 2, 3]), (9, []), (10, [])]), (15, [(0, []), (1, []), (2, []), (3, []), (4, []), (5, []), (6, []), (7, []), (8, []), (9, [])]), (16, [(0, []), (1, []), (2, []), (3, []), (4, []), (5, []), (6, []), (7, []), (8, []), (9, []), (10, [])])]
def pl45 : List (Nat × List (Nat × List Nat)) := [(3, [(0, []), (1, []), (2, []), (3, []), (4, []), (5, []), (6, []), (7, []), (8, []), (9, [])])]
def pl46 : List (Nat × List (Nat × List Nat)) := [(1, [(0, []), (1, []), (2, []), (3, []), (4, []), (5, []), (6, []), (7, []), (8, []), (9, []), (10, []), (11, []), (12, []), (13, []), (14, [4, 5, 6, 7, 8, 9, 10, 11]), (15, [])]), (27, [(0, []), (1, []), (2, []), (3, []), (5, []), (6, []), (7, []), (4, [5, 6, 7]), (8, []), (9, []), (10, []), (11, []), (12, [])])]
def pl48 : List (Nat × List (Nat × List Nat)) := [(1, [(0, []), (1, []), (2, []), (3, []), (4, []), (5, []), (6, []), (7, []), (8, []), (9, []), (10, []), (11, []), (12, []), (13, []), (14, []), (15, []), (16, []), (17, []), (18, [])])]
def pl49 : List (Nat × List (Nat × List Nat)) := [(8, [(0, []), (1, []), (2, []), (3, []), (4, []), (5, []), (6, []), (7, []), (8, []), (9, []), (10, []), (11, [])])]
def pl52 : List (Nat × List (Nat × List Nat)) := [(9, [(0, []), (1, []), (2, []), (3, []), (4, []), (5, []), (6, []), (7, []), (8, [])]), (12, [(0, []), (1, []), (2, []), (3, []), (4, []), (6, []), (7, []), (8, []), (9, []), (5, [6, 7, 8, 9]), (11, []), (10, [11]), (12, []), (13, []), (14, [])])]
def pl58 : List (Nat × List (Nat × List Nat)) := [(6, [(0, []), (1, []), (2, []), (3, []), (4, []), (5, []), (6, []), (8, []), (9, []), (10, []), (11, []), (12, []), (7, [0, 8, 9, 10, 11, 12]), (13, []), (14, []), (15, [])]), (8, [(0, []), (1, []), (2, []), (3, []), (4, []), (5, []), (6, []), (7, []), (8, []), (9, []), (10, []), (11, [])]), (10, [(0, []), (1, []), (2, []), (3, []), (4, []), (5, []), (6, []), (7, []), (8, []), (9, []), (10, []), (11, [])]), (15, [(0, []), (1, []), (2, []), (3, [])])]
def pl61 : List (Nat × List (Nat × List Nat)) := [(6, [(0, []), (1, []), (2, []), (3, []), (4, []), (5, []), (6, []), (7, []), (8, [])])]
def pl67 : List (Nat × List (Nat × List Nat)) := [(21, [(0, []), (1, []), (2, []), (3, []), (4, []), (5, []), (6, []), (7, []), (8, [])])]
def pl68 : List (Nat × List (Nat × List Nat)) := [(23, [(0, []), (1, []), (2, []), (3, []), (4, []), (5, []), (6, []), (7, []), (8, []), (9, [])])]
def pl70 : List (Nat × List (Nat × List Nat)) := [(24, [(0, []), (1, []), (2, []), (3, []), (4, []), (5, []), (6, []), (7, []), (8, []), (9, []), (10, []), (11, []), (13, []), (14, []), (12, [0, 1, 2, 3, 4, 5, 6, 7, 8, 9, 10, 13, 14]), (15, [0, 1, 2, 3, 4, 5, 6, 7, 8, 9, 10]), (16, [])])]
def pl72 : List (Nat × List (Nat × List Nat)) := [(8, [(0, []), (1, []), (2, []), (3, []), (4, []), (5, []), (6, []), (7, []), (8, [0, 1]), (9, []), (10, []), (11, []), (12, [])]), (9, [(0, []), (1, []), (2, []), (3, []), (4, []), (5, []), (6, []), (8, []), (7, [8]), (9, []), (10, []), (11, [])])]
def pl73 : List (Nat × List (Nat × List Nat)) := [(13, [(0, []), (1, []), (2, []), (3, []), (4, []), (5, [0]), (6, []), (7, []), (8, [6, 7]), (9, [])]), (17, [(0, []), (1, []), (2, []), (3, []), (4, []), (6, []), (7, []), (8, []), (9, []), (5, [6, 7, 8, 9]), (11, []), (10, [11]), (12, []), (13, []), (14, [])])]
def pl74 : List (Nat × List (Nat × List Nat)) := [(9, [(0, []), (1, []), (2, []), (3, []), (4, []), (5, []), (6, []), (7, []), (8, []), (9, []), (10, [])]), (10, [(0, []), (1, []), (2, []), (3, []), (4, []), (5, []), (6, []), (7, []), (8, []), (9, []), (10, []), (11, []), (12, []), (13, []), (14, [])])]
def pl75 : List (Nat × List (Nat × List Nat)) := [(1, [(0, []), (1, []), (2, []), (3, []), (4, []), (5, []), (6, []), (7, []), (8, []), (9, []), (10, []), (11, []), (12, []), (13, []), (14, [])])]
def pl81 : List (Nat × List (Nat × List Nat)) := [(1, [(0, []), (1, []), (2, []), (3, []), (4, []), (5, []), (6, []), (7, []), (8, []), (9, [])]), (11, [(0, []), (1, []), (2, []), (4, []), (5, []), (3, [4, 5]), (6, []), (7, [])]), (17, [(0, []), (1, []), (2, []), (3, []), (4, []), (5, []), (6, []), (7, []), (8, []), (9, []), (10, []), (11, []), (12, []), (13, []), (14, []), (15, []), (16, []), (17, []), (18, []), (19, []), (20, [11, 12]), (21, []), (22, [])]), (19, [(0, []), (1, []), (2, []), (3, []), (4, []), (6, []), (7, []), (8, []), (9, []), (5, [6, 7, 8, 9]), (11, []), (10, [11]), (12, []), (13, []), (14, [])]), (20, [(0, []), (1, []), (2, []), (3, []), (4, []), (5, []), (6, []), (7, []), (8, []), (9, []), (10, []), (11, []), (12, []), (13, []), (14, [])])]
def pl91 : List (Nat × List (Nat × List Nat)) := [(16, [(0, []), (1, []), (2, []), (3, []), (4, []), (5, []), (6, []), (7, []), (8, []), (9, []), (10, []), (11, []), (12, []), (13, [])])]
def pl92 : List (Nat × List (Nat × List Nat)) := [(16, [(0, []), (1, []), (2, []), (3, []), (4, []), (5, []), (6, []), (7, []), (8, []), (9, []), (10, []), (11, []), (12, []), (13, []), (14, []), (15, []), (16, []), (17, []), (18, []), (19, [])])]
def pl93 : List (Nat × List (Nat × List Nat)) := [(8, [(0, []), (1, []), (2, []), (3, []), (4, []), (5, []), (6, []), (7, []), (8, [])])]
def pl95 : List (Nat × List (Nat × List Nat)) := [(5, [(0, []), (1, []), (2, []), (3, []), (4, []), (5, []), (6, []), (7, []), (8, []), (9, []), (10, []), (11, []), (12, []), (13, []), (14, []), (15, []), (16, []), (17, []), (18, [])])]
def pl98 : List (Nat × List (Nat × List Nat)) := [(5, [(0, []), (1, []), (2, []), (3, []), (4, []), (5, []), (6, []), (7, [0, 1, 2, 3, 4]), (8, [0]), (9, []), (10, []), (11, [])]), (8, [(0, []), (1, []), (2, []), (3, []), (4, []), (5, []), (7, []), (8, []), (9, []), (11, []), (6, [0, 7, 8, 9, 11]), (10, [0, 11]), (12, [])]), (9, [(0, []), (1, []), (2, []), (3, []), (4, []), (5, []), (6, []), (7, [])])]
def pl100 : List (Nat × List (Nat × List Nat)) := [(3, [(0, []), (1, []), (2, []), (3, []), (4, []), (5, []), (6, []), (7, []), (8, [])]), (16, [(0, []), (1, []), (2, []), (3, []), (4, []), (5, [0, 1]), (6, []), (7, []), (8, []), (9, [])]), (17, [(0, []), (1, []), (2, []), (3, []), (4, []), (5, [0, 1]), (6, []), (7, []), (8, []), (9, [])])]
def pl101 : List (Nat × List (Nat × List Nat)) := [(9, [(0, []), (1, []), (2, []), (3, []), (4, []), (5, []), (6, [0, 1]), (7, []), (8, []), (9, []), (10, [])]), (14, [(0, []), (1, []), (2, []), (3, []), (4, []), (5, []), (6, []), (7, []), (8, []), (9, []), (10, []), (11, []), (12, []), (13, []), (14, []), (15, []), (16, [0, 1, 2, 3, 4]), (17, []), (18, []), (19, [])])]
def pl104 : List (Nat × List (Nat × List Nat)) := [(15, [(0, []), (1, []), (2, []), (3, []), (5, []), (6, []), (7, []), (8, []), (4, [0, 1, 2, 5, 6, 7, 8]), (9, [0, 1, 2]), (10, []), (11, []), (12, [])]), (17, [(0, []), (1, []), (2, []), (3, []), (4, []), (5, []), (6, []), (7, []), (8, []), (9, []), (10, []), (11, []), (12, [])]), (20, [(0, []), (1, []), (2, []), (3, []), (4, []), (6, []), (7, []), (8, []), (9, []), (5, [6, 7, 8, 9]), (11, []), (10, [11]), (12, []), (13, []), (14, [])])]
def pl119 : List (Nat × List (Nat × List Nat)) := [(1, [(0, []), (1, []), (2, []), (3, []), (4, []), (5, []), (6, []), (7, []), (8, [])])]
def pl125 : List (Nat × List (Nat × List Nat)) := [(1, [(0, []), (1, []), (2, []), (3, []), (4, []), (5, []), (6, []), (7, [])])]
def pl131 : List (Nat × List (Nat × List Nat)) := [(4, [(0, []), (1, []), (2, []), (3, []), (4, []), (5, []), (6, []), (7, []), (8, []), (9, [])])]
def pl133 : List (Nat × List (Nat × List Nat)) := [(2, [(0, []), (1, []), (2, []), (3, []), (4, [0, 1]), (5, [])]), (22, [(0, []), (1, []), (2, []), (3, []), (4, []), (6, []), (7, []), (5, [0, 1, 2, 3, 6, 7]), (8, [0, 1, 2, 3]), (9, [])]), (30, [(0, []), (1, []), (2, []), (3, []), (4, []), (5, []), (6, []), (7, []), (8, []), (9, []), (10, []), (11, []), (13, []), (12, [0, 1, 2, 3, 4, 5, 6, 7, 8, 9, 10, 13]), (14, [0, 1, 2, 3, 4, 5, 6, 7, 8, 9, 10]), (15, [])])]
def pl136 : List (Nat × List (Nat × List Nat)) := [(2, [(0, []), (1, []), (2, []), (3, []), (4, []), (5, []), (6, []), (7, []), (8, []), (9, []), (10, []), (11, [])])]
def pl138 : List (Nat × List (Nat × List Nat)) := [(4, [(0, []), (1, []), (2, []), (3, []), (4, []), (5, []), (6, []), (7, [])]), (10, [(0, []), (1, []), (2, []), (3, []), (4, []), (5, []), (7, []), (8, []), (9, []), (10, []), (11, []), (12, []), (13, []), (6, [7, 8, 9, 10, 11, 12, 13]), (14, []), (15, [])])]
def pl140 : List (Nat × List (Nat × List Nat)) := [(1, [(0, []), (1, []), (2, []), (3, []), (4, [0, 1]), (5, [])]), (9, [(0, []), (1, []), (2, []), (3, []), (4, []), (5, []), (6, [])]), (14, [(0, []), (1, []), (2, []), (3, []), (4, []), (5, []), (6, []), (7, []), (8, []), (9, []), (10, []), (11, []), (12, []), (13, [])]), (21, [(0, []), (1, []), (2, []), (3, []), (4, []), (5, []), (6, []), (7, []), (8, []), (10, []), (9, [10]), (11, []), (12, []), (13, [])])]
def pl142 : List (Nat × List (Nat × List Nat)) := [(5, [(0, []), (1, []), (2, []), (3, []), (4, []), (5, []), (6, []), (7, []), (8, []), (9, []), (10, []), (11, []), (16, []), (17, []), (18, []), (19, []), (12, [0, 1, 2, 3, 4, 5, 6, 16, 17, 18, 19]), (13, []), (14, []), (15, []), (20, [0, 1, 2, 3]), (21, []), (22, [])]), (11, [(0, []), (1, []), (2, []), (3, []), (4, []), (5, []), (6, []), (7, []), (8, []), (9, []), (10, [0, 1]), (11, []), (12, []), (13, []), (14, [])])]
def pl143 : List (Nat × List (Nat × List Nat)) := [(9, [(0, []), (1, []), (2, []), (3, []), (4, []), (5, [0]), (6, []), (7, [])]), (13, [(0, []), (1, []), (2, []), (3, []), (4, []), (5, [0, 1]), (6, []), (7, []), (8, []), (9, [])]), (19, [(0, []), (1, []), (2, []), (3, []), (4, []), (5, []), (6, []), (7, [0, 1]), (8, []), (9, []), (10, []), (11, [])])]
def pl147 : List (Nat × List (Nat × List Nat)) := [(4, [(0, []), (1, []), (2, []), (3, []), (4, []), (5, []), (6, []), (7, []), (8, [])]), (5, [(0, []), (1, []), (2, []), (3, []), (4, []), (5, []), (6, []), (7, []), (8, []), (9, []), (10, []), (11, []), (12, [])])]
def pl148 : List (Nat × List (Nat × List Nat)) := [(4, [(0, []), (1, []), (2, []), (3, []), (4, []), (5, []), (6, []), (7, []), (8, []), (9, [])])]
def pl153 : List (Nat × List (Nat × List Nat)) := [(3, [(0, []), (1, []), (2, []), (3, []), (4, []), (5, []), (6, []), (7, []), (8, []), (9, []), (10, []), (11, [])]), (6, [(0, []), (1, []), (2, []), (3, []), (4, []), (5, []), (6, []), (7, []), (8, []), (9, []), (10, []), (11, []), (12, []), (13, []), (14, []), (15, [])])]
def pl155 : List (Nat × List (Nat × List Nat)) := [(1, [(0, []), (1, []), (2, []), (3, []), (4, []), (5, []), (6, []), (7, []), (8, []), (9, []), (10, []), (11, [2, 3, 4, 5, 6, 7, 8]), (12, [])]), (10, [(0, []), (1, []), (2, []), (3, []), (4, []), (5, [0, 1]), (6, []), (7, []), (8, [])]), (15, [(0, []), (1, []), (2, []), (3, []), (4, []), (5, []), (6, []), (7, []), (8, []), (9, []), (10, []), (11, []), (12, []), (13, [])])]
def pl156 : List (Nat × List (Nat × List Nat)) := [(1, [(0, []), (1, []), (2, []), (3, []), (4, []), (5, []), (6, []), (7, []), (8, []), (9, [])]), (6, [(0, []), (1, []), (2, []), (3, []), (4, []), (5, []), (6, [0]), (7, []), (8, [])])]
def pl161 : List (Nat × List (Nat × List Nat)) := [(11, [(0, []), (1, []), (2, []), (3, []), (4, []), (5, []), (6, []), (7, []), (8, []), (9, []), (10, [0]), (11, []), (12, []), (13, [])])]
def pl162 : List (Nat × List (Nat × List Nat)) := [(5, [(0, []), (1, []), (2, []), (3, []), (4, []), (5, []), (6, []), (7, [0]), (8, []), (9, []), (10, [])]), (19, [(0, []), (1, []), (2, []), (3, []), (4, []), (5, []), (6, []), (7, []), (8, []), (9, []), (10, []), (11, [])])]
def pl165 : List (Nat × List (Nat × List Nat)) := [(1, [(0, []), (1, []), (2, []), (3, []), (4, []), (5, []), (6, []), (7, [])])]
def pl166 : List (Nat × List (Nat × List Nat)) := [(1, [(0, []), (1, []), (2, []), (3, []), (4, []), (5, []), (6, []), (7, [])])]
def pl167 : List (Nat × List (Nat × List Nat)) := [(4, [(0, []), (1, []), (2, []), (3, []), (4, []), (5, []), (6, []), (7, []), (8, []), (9, []), (10, []), (11, []), (12, [0]), (13, []), (14, []), (15, [])])]
def pl168 : List (Nat × List (Nat × List Nat)) := [(1, [(0, []), (1, []), (2, []), (3, []), (4, []), (5, []), (6, []), (7, []), (8, []), (9, []), (10, []), (11, []), (12, []), (13, []), (14, []), (15, []), (16, []), (17, []), (18, [])]), (6, [(0, []), (1, []), (2, []), (3, []), (4, []), (5, []), (6, []), (7, []), (8, []), (9, []), (10, []), (11, []), (12, []), (13, []), (14, []), (15, [])])]
def pl169 : List (Nat × List (Nat × List Nat)) := [(13, [(0, []), (1, []), (2, []), (3, []), (4, []), (5, []), (6, []), (7, []), (8, [0, 1, 2, 3, 4]), (9, []), (10, [0, 1, 2, 3]), (11, []), (12, []), (13, []), (14, [])]), (22, [(0, []), (1, []), (2, []), (3, []), (4, []), (5, []), (7, []), (8, []), (6, [0, 1, 2, 3, 4, 7, 8]), (9, [0, 1, 2, 3, 4]), (10, [0, 1]), (11, []), (12, []), (13, []), (14, [])]), (30, [(0, []), (1, []), (2, []), (3, []), (4, []), (5, []), (6, []), (7, []), (9, []), (8, [0, 1, 2, 3, 4, 5, 6, 9]), (10, [0, 1, 2, 3, 4, 5, 6]), (11, []), (12, []), (13, []), (14, [])])]
def pl171 : List (Nat × List (Nat × List Nat)) := [(0, [(0, []), (1, []), (2, []), (3, []), (4, []), (5, []), (6, []), (7, []), (8, []), (9, []), (10, []), (11, []), (12, []), (13, []), (14, []), (15, []), (16, []), (17, []), (18, []), (19, []), (20, [])])]
def pl173 : List (Nat × List (Nat × List Nat)) := [(1, [(0, []), (1, []), (2, []), (3, []), (4, []), (5, []), (6, []), (7, []), (8, []), (9, []), (10, []), (11, []), (12, [])]), (8, [(0, []), (1, []), (2, []), (3, []), (4, [0, 1]), (5, []), (6, []), (7, [])]), (10, [(0, []), (1, []), (2, []), (3, []), (4, []), (5, []), (6, []), (7, []), (8, []), (9, []), (11, []), (12, []), (10, [11, 12]), (13, []), (14, []), (15, []), (16, [])])]
def pl186 : List (Nat × List (Nat × List Nat)) := [(1, [(0, []), (1, []), (2, []), (3, []), (4, []), (5, []), (6, []), (7, [])])]
def pl187 : List (Nat × List (Nat × List Nat)) := [(36, [(0, []), (1, []), (2, []), (3, []), (4, []), (5, []), (6, []), (7, []), (8, []), (9, [])]), (41, [(0, []), (1, []), (2, []), (3, []), (4, []), (5, []), (6, []), (7, []), (8, []), (9, []), (10, []), (11, []), (12, [])])]
def pl194 : List (Nat × List (Nat × List Nat)) := [(2, [(0, []), (1, []), (2, []), (3, []), (4, []), (5, []), (6, [0, 1]), (7, []), (8, []), (9, [])]), (7, [(0, []), (1, []), (2, []), (3, []), (4, []), (5, []), (6, []), (7, []), (8, []), (9, []), (10, []), (11, []), (12, []), (13, []), (14, []), (15, []), (16, []), (17, []), (18, [0, 1, 2, 3, 4, 5, 6, 7, 8, 9, 10, 11, 12, 13, 14, 15, 16]), (19, []), (20, [0, 1, 2, 3, 4, 5]), (21, []), (22, [])])]
def pl195 : List (Nat × List (Nat × List Nat)) := [(9, [(0, []), (1, []), (2, []), (3, []), (4, []), (5, []), (6, []), (7, []), (8, []), (9, []), (10, []), (11, []), (12, []), (13, []), (14, []), (15, []), (16, []), (17, [0, 1, 2, 3, 4, 5, 6, 7, 8, 9, 10, 11, 12, 13, 14]), (18, []), (19, [0, 1]), (20, []), (21, []), (22, []), (23, [])])]
def pl196 : List (Nat × List (Nat × List Nat)) := [(9, [(0, []), (1, []), (2, []), (3, []), (4, []), (5, []), (6, []), (7, [0, 1, 2, 3]), (8, []), (9, [])])]
def pl199 : List (Nat × List (Nat × List Nat)) := [(3, [(0, []), (1, []), (2, []), (3, []), (4, []), (5, []), (6, []), (7, []), (8, []), (9, []), (10, []), (11, []), (12, [])])]
def pl202 : List (Nat × List (Nat × List Nat)) := [(1, [(0, []), (1, []), (2, []), (3, []), (4, []), (5, []), (6, []), (7, []), (8, []), (9, []), (10, []), (11, [])])]
def pl203 : List (Nat × List (Nat × List Nat)) := [(3, [(0, []), (1, []), (2, []), (3, []), (4, []), (5, []), (6, []), (7, []), (8, []), (9, []), (10, []), (11, []), (12, []), (13, [2, 3]), (14, []), (15, [])])]
def pl205 : List (Nat × List (Nat × List Nat)) := [(1, [(0, []), (1, []), (2, []), (3, []), (4, []), (5, []), (6, []), (7, [])])]
def pl223 : List (Nat × List (Nat × List Nat)) := [(4, [(0, []), (1, []), (2, []), (4, []), (5, []), (3, [4, 5]), (6, []), (7, [])])]
def pl230 : List (Nat × List (Nat × List Nat)) := [(4, [(0, []), (1, []), (2, []), (3, []), (4, []), (5, []), (6, []), (7, []), (8, []), (9, []), (10, []), (11, [])])]
def pl231 : List (Nat × List (Nat × List Nat)) := [(1, [(0, []), (1, []), (2, []), (3, []), (5, []), (6, []), (7, []), (8, []), (10, []), (11, []), (12, []), (13, []), (15, []), (16, []), (17, []), (18, []), (20, []), (21, []), (22, []), (23, []), (25, []), (26, []), (27, []), (28, []), (4, [5, 6, 7, 8, 10, 11, 12, 13, 15, 16, 17, 18, 20, 21, 22, 23, 25, 26, 27, 28]), (9, [10, 11, 12, 13, 15, 16, 17, 18, 20, 21, 22, 23, 25, 26, 27, 28]), (14, [15, 16, 17, 18, 20, 21, 22, 23, 25, 26, 27, 28]), (19, [20, 21, 22, 23, 25, 26, 27, 28]), (24, [25, 26, 27, 28]), (29, []), (30, []), (31, []), (32, [])])]
def pl239 : List (Nat × List (Nat × List Nat)) := [(1, [(0, []), (1, []), (2, []), (3, []), (4, []), (5, []), (6, [2, 3]), (7, [])]), (18, [(0, []), (1, []), (2, []), (3, []), (4, []), (5, []), (6, []), (7, []), (12, []), (13, []), (14, []), (15, []), (8, [0, 1, 2, 12, 13, 14, 15]), (9, []), (10, []), (11, []), (16, []), (17, [])]), (24, [(0, []), (1, []), (2, []), (3, []), (4, []), (5, []), (6, []), (7, []), (8, []), (9, [0]), (10, []), (11, [])])]
def pl246 : List (Nat × List (Nat × List Nat)) := [(0, [(0, []), (1, []), (2, []), (3, []), (4, []), (5, []), (6, []), (7, []), (9, []), (10, []), (11, []), (12, []), (13, []), (8, [9, 10, 11, 12, 13]), (14, []), (15, [])])]
def pl283 : List (Nat × List (Nat × List Nat)) := [(6, [(0, []), (1, []), (2, []), (3, []), (4, []), (5, []), (6, [])]), (7, [(0, []), (1, []), (2, []), (3, []), (4, []), (5, []), (6, []), (7, []), (8, [])]), (14, [(0, []), (1, []), (2, []), (3, []), (4, []), (5, []), (6, []), (7, []), (8, []), (9, []), (10, [])]), (31, [(0, []), (1, []), (2, []), (3, []), (4, []), (5, []), (6, []), (7, []), (8, []), (9, []), (10, [])])]
end Go.Proofs.YtgnnakibcjonbaaGreatDoor.VE

/- Chapter 16: data of the program as plain Lean data; contracts in families. -/
namespace Go.Proofs.YtgnnakibcjonbaaGreatDoor.VE
open Go Go.RowKit
set_option linter.unusedVariables false
/-- A choice of a union. -/
structure Ch where
  number : Int
  of : Int
  name : ByteArray
/-- A field of a layout. -/
structure Fd where
  name : ByteArray
  kind : Int
  width : Int
  signed : Bool
  lowFirst : Bool
  purpose : Int
  for_ : ByteArray
  of : Int
  choices : List Ch
/-- A layout. -/
structure Ly where
  name : ByteArray
  fields : List Fd
  lowBits : Bool
/-- A value. -/
inductive Val where
  | mk (kind n e : Int) (s : ByteArray) (names : List ByteArray) (items : List Val)
def Val.kind : Val → Int | .mk k _ _ _ _ _ => k
def Val.n : Val → Int | .mk _ n _ _ _ _ => n
def Val.e : Val → Int | .mk _ _ e _ _ _ => e
def Val.s : Val → ByteArray | .mk _ _ _ s _ _ => s
def Val.names : Val → List ByteArray | .mk _ _ _ _ ns _ => ns
def Val.items : Val → List Val | .mk _ _ _ _ _ is => is
def encCh (c : Ch) : List D := [.int .i64 c.number, .int .i64 c.of, .str c.name]
def encFd (f : Fd) : List D := [.str f.name, .int .i64 f.kind, .int .i64 f.width, .bool f.signed, .bool f.lowFirst, .int .i64 f.purpose, .str f.for_, .int .i64 f.of, .sl 3 (f.choices.map encCh)]
def encLy (x : Ly) : List D := [.str x.name, .sl 9 (x.fields.map encFd), .bool x.lowBits]
def encI (n : Int) : List D := [.int .i64 n]
def encB (n : Int) : List D := [.int .u8 n]
def encS (s : ByteArray) : List D := [.str s]
def encVal : Val → List D
  | .mk k n e s ns is => [.int .i64 k, .int .i64 n, .int .i64 e, .str s, .sl 1 (ns.map encS), .sl 6 (is.map encVal)]
theorem map_inj' {α β : Type} {f : α → β} (hf : ∀ x y, f x = f y → x = y) : ∀ (xs ys : List α), xs.map f = ys.map f → xs = ys
  | [], [], _ => rfl
  | [], _ :: _, h => by simp at h
  | _ :: _, [], h => by simp at h
  | x :: xs, y :: ys, h => by
    simp only [List.map_cons, List.cons.injEq] at h
    rw [hf x y h.1, map_inj' hf xs ys h.2]
theorem encI_inj (x y : Int) (h : encI x = encI y) : x = y := by simpa [encI] using h
theorem encB_inj (x y : Int) (h : encB x = encB y) : x = y := by simpa [encB] using h
theorem encS_inj (x y : ByteArray) (h : encS x = encS y) : x = y := by simpa [encS] using h
theorem encCh_inj (x y : Ch) (h : encCh x = encCh y) : x = y := by
  cases x; cases y; simpa [encCh] using h
theorem mapCh_inj {xs ys : List Ch} : xs.map encCh = ys.map encCh ↔ xs = ys := ⟨map_inj' encCh_inj xs ys, fun h => by rw [h]⟩
theorem encFd_inj (x y : Fd) (h : encFd x = encFd y) : x = y := by
  cases x; cases y; simpa [encFd, mapCh_inj] using h
theorem mapFd_inj {xs ys : List Fd} : xs.map encFd = ys.map encFd ↔ xs = ys := ⟨map_inj' encFd_inj xs ys, fun h => by rw [h]⟩
theorem encLy_inj (x y : Ly) (h : encLy x = encLy y) : x = y := by
  cases x; cases y; simpa [encLy, mapFd_inj] using h
theorem mapLy_inj {xs ys : List Ly} : xs.map encLy = ys.map encLy ↔ xs = ys := ⟨map_inj' encLy_inj xs ys, fun h => by rw [h]⟩
theorem mapI_inj {xs ys : List Int} : xs.map encI = ys.map encI ↔ xs = ys := ⟨map_inj' encI_inj xs ys, fun h => by rw [h]⟩
theorem mapB_inj {xs ys : List Int} : xs.map encB = ys.map encB ↔ xs = ys := ⟨map_inj' encB_inj xs ys, fun h => by rw [h]⟩
theorem mapS_inj {xs ys : List ByteArray} : xs.map encS = ys.map encS ↔ xs = ys := ⟨map_inj' encS_inj xs ys, fun h => by rw [h]⟩
theorem encVal_inj : ∀ (x y : Val), encVal x = encVal y → x = y
  | .mk k n e s ns is, .mk k' n' e' s' ns' is', h => by
    simp only [encVal, List.cons.injEq, D.int.injEq, D.str.injEq, D.sl.injEq, true_and, and_true, mapS_inj] at h
    obtain ⟨rfl, rfl, rfl, rfl, rfl, h⟩ := h
    have : is = is' := go is is' h
    rw [this]
where
  go : ∀ (xs ys : List Val), xs.map encVal = ys.map encVal → xs = ys
    | [], [], _ => rfl
    | [], _ :: _, h => by simp at h
    | _ :: _, [], h => by simp at h
    | x :: xs, y :: ys, h => by
      simp only [List.map_cons, List.cons.injEq] at h
      rw [encVal_inj x y h.1, go xs ys h.2]
theorem mapVal_inj {xs ys : List Val} : xs.map encVal = ys.map encVal ↔ xs = ys := ⟨map_inj' encVal_inj xs ys, fun h => by rw [h]⟩
@[go_sem] theorem fd_eta (a : Fd) : Fd.mk a.name a.kind a.width a.signed a.lowFirst a.purpose a.for_ a.of a.choices = a := rfl
@[go_sem] theorem ch_eta (a : Ch) : Ch.mk a.number a.of a.name = a := rfl
@[go_sem] theorem ly_eta (a : Ly) : Ly.mk a.name a.fields a.lowBits = a := rfl
@[go_sem] theorem val_eta (a : Val) : Val.mk a.kind a.n a.e a.s a.names a.items = a := by cases a; rfl
theorem encVal_eq (v : Val) : encVal v = [.int .i64 v.kind, .int .i64 v.n, .int .i64 v.e, .str v.s, .sl 1 (v.names.map encS), .sl 6 (v.items.map encVal)] := by cases v; rw [encVal]; rfl
attribute [go_sem] encCh encFd encLy encI encB encS encVal_eq
/-- Rows read back as data. -/
noncomputable def dec {α : Type} (enc : α → List D) (rows : List (List D)) : Option (List α) := open Classical in if h : ∃ xs : List α, xs.map enc = rows then some h.choose else none
theorem dec_some {α : Type} {enc : α → List D} {rows : List (List D)} {xs : List α} (h : dec enc rows = some xs) : rows = xs.map enc := by
  unfold dec at h
  split at h
  · rename_i hx
    simp only [Option.some.injEq] at h
    rw [← h, hx.choose_spec]
  · cases h
theorem dec_of {α : Type} {enc : α → List D} (inj : ∀ x y, enc x = enc y → x = y) (xs : List α) : dec enc (xs.map enc) = some xs := by
  unfold dec
  have h : ∃ ys : List α, ys.map enc = xs.map enc := ⟨xs, rfl⟩
  rw [dif_pos h, map_inj' inj _ _ h.choose_spec]
theorem dec_nil' {α : Type} {enc : α → List D} (inj : ∀ x y, enc x = enc y → x = y) : dec enc [] = some [] := dec_of inj []
theorem dec_cons' {α : Type} {enc : α → List D} (inj : ∀ x y, enc x = enc y → x = y) (x : α) (rows : List (List D)) : dec enc (enc x :: rows) = (dec enc rows).map (x :: ·) := by
  unfold dec
  by_cases h : ∃ xs : List α, xs.map enc = rows
  · obtain ⟨xs, rfl⟩ := h
    have h1 : ∃ ys : List α, ys.map enc = xs.map enc := ⟨xs, rfl⟩
    have h2 : ∃ ys : List α, ys.map enc = enc x :: xs.map enc := ⟨x :: xs, rfl⟩
    rw [dif_pos h1, dif_pos h2, Option.map_some, map_inj' inj _ _ h1.choose_spec]
    have h3 := h2.choose_spec
    rw [map_inj' inj _ (x :: xs) h3]
  · rw [dif_neg h, dif_neg]
    · rfl
    · rintro ⟨ys, hy⟩
      cases ys with
      | nil => simp at hy
      | cons y ys => simp only [List.map_cons, List.cons.injEq] at hy; exact h ⟨ys, hy.2⟩
@[go_sem] theorem dec_I (xs : List Int) : dec encI (xs.map encI) = some xs := dec_of encI_inj xs
@[go_sem] theorem dec_B (xs : List Int) : dec encB (xs.map encB) = some xs := dec_of encB_inj xs
@[go_sem] theorem dec_S (xs : List ByteArray) : dec encS (xs.map encS) = some xs := dec_of encS_inj xs
@[go_sem] theorem dec_Ch (xs : List Ch) : dec encCh (xs.map encCh) = some xs := dec_of encCh_inj xs
@[go_sem] theorem dec_Fd (xs : List Fd) : dec encFd (xs.map encFd) = some xs := dec_of encFd_inj xs
@[go_sem] theorem dec_Ly (xs : List Ly) : dec encLy (xs.map encLy) = some xs := dec_of encLy_inj xs
@[go_sem] theorem dec_Val (xs : List Val) : dec encVal (xs.map encVal) = some xs := dec_of encVal_inj xs
@[go_sem] theorem decn_I : dec encI [] = some [] := dec_nil' encI_inj
@[go_sem] theorem decn_B : dec encB [] = some [] := dec_nil' encB_inj
@[go_sem] theorem decn_S : dec encS [] = some [] := dec_nil' encS_inj
@[go_sem] theorem decn_Ch : dec encCh [] = some [] := dec_nil' encCh_inj
@[go_sem] theorem decn_Fd : dec encFd [] = some [] := dec_nil' encFd_inj
@[go_sem] theorem decn_Ly : dec encLy [] = some [] := dec_nil' encLy_inj
@[go_sem] theorem decn_Val : dec encVal [] = some [] := dec_nil' encVal_inj
@[go_sem] theorem decc_I (n : Int) (r : List (List D)) : dec encI ([.int .i64 n] :: r) = (dec encI r).map (n :: ·) := dec_cons' encI_inj n r
@[go_sem] theorem decc_S (s : ByteArray) (r : List (List D)) : dec encS ([.str s] :: r) = (dec encS r).map (s :: ·) := dec_cons' encS_inj s r
end Go.Proofs.YtgnnakibcjonbaaGreatDoor.VE

/- Chapter 16: contracts of small functions of the program. -/
namespace Go.Proofs.YtgnnakibcjonbaaGreatDoor.VE
open Go Go.RowKit
set_option maxRecDepth 100000
set_option linter.unusedSimpArgs false
set_option linter.unusedVariables false
def within (n low high : Int) : Bool := decide (low ≤ n) && decide (n ≤ high)
theorem t115 (n : Int) (low : Int) (high : Int) : PureOk Tryz.prog 115 [.d (.int .i64 n), .d (.int .i64 low), .d (.int .i64 high)] (True) (.d (.bool (within n low high))) := by
  refine pure_fn (C := fun gm => ⟨T, gam [], dam [], plT [], ⟨gm, fun _ _ => none⟩⟩) (fun _ => tok) (fun gm => cok T _ _ _ gm) mixed Tryz.func115 rfl (Nat.le_of_ble_eq_true rfl) rfl (fun _ => rfl) (fun _ => by kernel_rfl) fun gm hp => ?_
  unfold Tryz.f115
  simp only [go_sem, ↓reduceIte, Nat.reduceEqDiff, reduceCtorEq, Nat.reduceAdd, Nat.reduceLeDiff, Nat.reduceSub]
  simp only [within]; cases decide (low ≤ n) <;> rfl
noncomputable def E115 : Ent Tryz.prog := Ent.of 115 (fnOk Tryz.func115 rfl (by kernel_rfl)) (fun
    | [.d (.int .i64 n), .d (.int .i64 low), .d (.int .i64 high)] => some (True, .d (.bool (within n low high)))
    | _ => none) fun args p r h => by
    split at h
    · skip
      cases h; exact t115 _ _ _
    · cases h
@[go_sem] theorem E115_f : E115.f = 115 := rfl
@[go_sem] theorem E115_c (n : Int) (low : Int) (high : Int) : E115.c [.d (.int .i64 n), .d (.int .i64 low), .d (.int .i64 high)] = some (True, .d (.bool (within n low high))) := rfl
def isLetter (c : Int) : Bool := (decide (97 ≤ c) && decide (c ≤ 122)) || (decide (65 ≤ c) && decide (c ≤ 90))
theorem t111 (c : Int) : PureOk Tryz.prog 111 [.d (.int .i32 c)] (True) (.d (.bool (isLetter c))) := by
  refine pure_fn (C := fun gm => ⟨T, gam [], dam [], plT [], ⟨gm, fun _ _ => none⟩⟩) (fun _ => tok) (fun gm => cok T _ _ _ gm) mixed Tryz.func111 rfl (Nat.le_of_ble_eq_true rfl) rfl (fun _ => rfl) (fun _ => by kernel_rfl) fun gm hp => ?_
  unfold Tryz.f111
  simp only [go_sem, ↓reduceIte, Nat.reduceEqDiff, reduceCtorEq, Nat.reduceAdd, Nat.reduceLeDiff, Nat.reduceSub]
  simp only [isLetter]; cases decide (97 ≤ c) <;> cases decide (c ≤ 122) <;> cases decide (65 ≤ c) <;> cases decide (c ≤ 90) <;> simp
noncomputable def E111 : Ent Tryz.prog := Ent.of 111 (fnOk Tryz.func111 rfl (by kernel_rfl)) (fun
    | [.d (.int .i32 c)] => some (True, .d (.bool (isLetter c)))
    | _ => none) fun args p r h => by
    split at h
    · skip
      cases h; exact t111 _
    · cases h
@[go_sem] theorem E111_f : E111.f = 111 := rfl
@[go_sem] theorem E111_c (c : Int) : E111.c [.d (.int .i32 c)] = some (True, .d (.bool (isLetter c))) := rfl
def isText (kind : Int) : Bool := kind == 1 || kind == 2 || kind == 3
theorem t180 (kind : Int) : PureOk Tryz.prog 180 [.d (.int .i64 kind)] (True) (.d (.bool (isText kind))) := by
  refine pure_fn (C := fun gm => ⟨T, gam [], dam [], plT [], ⟨gm, fun _ _ => none⟩⟩) (fun _ => tok) (fun gm => cok T _ _ _ gm) mixed Tryz.func180 rfl (Nat.le_of_ble_eq_true rfl) rfl (fun _ => rfl) (fun _ => by kernel_rfl) fun gm hp => ?_
  unfold Tryz.f180
  simp only [go_sem, ↓reduceIte, Nat.reduceEqDiff, reduceCtorEq, Nat.reduceAdd, Nat.reduceLeDiff, Nat.reduceSub]
  simp only [isText]; cases kind == 1 <;> cases kind == 2 <;> cases kind == 3 <;> simp
noncomputable def E180 : Ent Tryz.prog := Ent.of 180 (fnOk Tryz.func180 rfl (by kernel_rfl)) (fun
    | [.d (.int .i64 kind)] => some (True, .d (.bool (isText kind)))
    | _ => none) fun args p r h => by
    split at h
    · skip
      cases h; exact t180 _
    · cases h
@[go_sem] theorem E180_f : E180.f = 180 := rfl
@[go_sem] theorem E180_c (kind : Int) : E180.c [.d (.int .i64 kind)] = some (True, .d (.bool (isText kind))) := rfl
def widths (kind : Int) : Int × Int := if kind = 0 then (1, 60) else if kind = 4 then (1, 200) else if kind = 6 then (0, 20) else if kind = 5 ∨ kind = 7 then (0, 0) else (0, 200)
theorem t112 (kind : Int) : PureOk Tryz.prog 112 [.d (.int .i64 kind)] (True) (.tup [.d (.int .i64 (widths kind).1), .d (.int .i64 (widths kind).2)]) := by
  refine pure_fn (C := fun gm => ⟨T, gam [], dam [], plT [], ⟨gm, fun _ _ => none⟩⟩) (fun _ => tok) (fun gm => cok T _ _ _ gm) mixed Tryz.func112 rfl (Nat.le_of_ble_eq_true rfl) rfl (fun _ => rfl) (fun _ => by kernel_rfl) fun gm hp => ?_
  unfold Tryz.f112
  simp only [go_sem, ↓reduceIte, Nat.reduceEqDiff, reduceCtorEq, Nat.reduceAdd, Nat.reduceLeDiff, Nat.reduceSub]
  simp only [widths]
  repeat' (first | intro _ | apply And.intro)
  all_goals simp_all
noncomputable def E112 : Ent Tryz.prog := Ent.of 112 (fnOk Tryz.func112 rfl (by kernel_rfl)) (fun
    | [.d (.int .i64 kind)] => some (True, .tup [.d (.int .i64 (widths kind).1), .d (.int .i64 (widths kind).2)])
    | _ => none) fun args p r h => by
    split at h
    · skip
      cases h; exact t112 _
    · cases h
@[go_sem] theorem E112_f : E112.f = 112 := rfl
@[go_sem] theorem E112_c (kind : Int) : E112.c [.d (.int .i64 kind)] = some (True, .tup [.d (.int .i64 (widths kind).1), .d (.int .i64 (widths kind).2)]) := rfl
def isSized (f : Fd) : Bool := ((isText f.kind || f.kind == 6) && f.width == 0) || f.kind == 7
theorem t122 (f : Fd) : PureOk Tryz.prog 122 [.agg [.d (.str f.name), .d (.int .i64 f.kind), .d (.int .i64 f.width), .d (.bool f.signed), .d (.bool f.lowFirst), .d (.int .i64 f.purpose), .d (.str f.for_), .d (.int .i64 f.of), .d (.sl 3 (f.choices.map encCh))]] (True) (.d (.bool (isSized f))) := by
  refine pure_fn (C := fun gm => ⟨T, gam [E180], dam [], plT [], ⟨gm, fun _ _ => none⟩⟩) (fun _ => tok) (fun gm => cok T _ _ _ gm) mixed Tryz.func122 rfl (Nat.le_of_ble_eq_true rfl) rfl (fun _ => rfl) (fun _ => by kernel_rfl) fun gm hp => ?_
  unfold Tryz.f122
  simp only [go_sem, ↓reduceIte, Nat.reduceEqDiff, reduceCtorEq, Nat.reduceAdd, Nat.reduceLeDiff, Nat.reduceSub]
  simp only [isSized]; cases isText f.kind <;> cases f.kind == 6 <;> cases f.width == 0 <;> cases f.kind == 7 <;> simp
noncomputable def E122 : Ent Tryz.prog := Ent.of 122 (fnOk Tryz.func122 rfl (by kernel_rfl)) (fun
    | [.agg [.d (.str f_name), .d (.int .i64 f_kind), .d (.int .i64 f_width), .d (.bool f_signed), .d (.bool f_lowFirst), .d (.int .i64 f_purpose), .d (.str f_for_), .d (.int .i64 f_of), .d (.sl 3 f_choices)]] => (dec encCh f_choices).bind fun f_choices => some (True, .d (.bool (isSized (Fd.mk f_name f_kind f_width f_signed f_lowFirst f_purpose f_for_ f_of f_choices))))
    | _ => none) fun args p r h => by
    split at h
    · obtain ⟨_, hd0, h0⟩ := Option.bind_eq_some_iff.1 h; clear h; have hd0 := dec_some hd0; subst hd0
      cases h0; exact t122 (Fd.mk _ _ _ _ _ _ _ _ _)
    · cases h
@[go_sem] theorem E122_f : E122.f = 122 := rfl
@[go_sem] theorem E122_c (f_name : ByteArray) (f_kind : Int) (f_width : Int) (f_signed : Bool) (f_lowFirst : Bool) (f_purpose : Int) (f_for_ : ByteArray) (f_of : Int) (f_choices : List (List D)) : E122.c [.agg [.d (.str f_name), .d (.int .i64 f_kind), .d (.int .i64 f_width), .d (.bool f_signed), .d (.bool f_lowFirst), .d (.int .i64 f_purpose), .d (.str f_for_), .d (.int .i64 f_of), .d (.sl 3 f_choices)]] = (dec encCh f_choices).bind fun f_choices => some (True, .d (.bool (isSized (Fd.mk f_name f_kind f_width f_signed f_lowFirst f_purpose f_for_ f_of f_choices)))) := rfl
def serves (purpose kind : Int) : Bool := if purpose = 1 then isText kind else if purpose = 2 then kind == 6 else kind == 7
theorem t178 (purpose : Int) (kind : Int) : PureOk Tryz.prog 178 [.d (.int .i64 purpose), .d (.int .i64 kind)] (True) (.d (.bool (serves purpose kind))) := by
  refine pure_fn (C := fun gm => ⟨T, gam [E180], dam [], plT [], ⟨gm, fun _ _ => none⟩⟩) (fun _ => tok) (fun gm => cok T _ _ _ gm) mixed Tryz.func178 rfl (Nat.le_of_ble_eq_true rfl) rfl (fun _ => rfl) (fun _ => by kernel_rfl) fun gm hp => ?_
  unfold Tryz.f178
  simp only [go_sem, ↓reduceIte, Nat.reduceEqDiff, reduceCtorEq, Nat.reduceAdd, Nat.reduceLeDiff, Nat.reduceSub]
  simp only [serves]
  repeat' (first | intro _ | apply And.intro)
  all_goals simp_all
noncomputable def E178 : Ent Tryz.prog := Ent.of 178 (fnOk Tryz.func178 rfl (by kernel_rfl)) (fun
    | [.d (.int .i64 purpose), .d (.int .i64 kind)] => some (True, .d (.bool (serves purpose kind)))
    | _ => none) fun args p r h => by
    split at h
    · skip
      cases h; exact t178 _ _
    · cases h
@[go_sem] theorem E178_f : E178.f = 178 := rfl
@[go_sem] theorem E178_c (purpose : Int) (kind : Int) : E178.c [.d (.int .i64 purpose), .d (.int .i64 kind)] = some (True, .d (.bool (serves purpose kind))) := rfl
def named (f : Fd) : Bool := f.purpose != 0 && f.purpose != 4
theorem t116 (f : Fd) : PureOk Tryz.prog 116 [.agg [.d (.str f.name), .d (.int .i64 f.kind), .d (.int .i64 f.width), .d (.bool f.signed), .d (.bool f.lowFirst), .d (.int .i64 f.purpose), .d (.str f.for_), .d (.int .i64 f.of), .d (.sl 3 (f.choices.map encCh))]] (True) (.d (.bool (named f))) := by
  refine pure_fn (C := fun gm => ⟨T, gam [], dam [], plT [], ⟨gm, fun _ _ => none⟩⟩) (fun _ => tok) (fun gm => cok T _ _ _ gm) mixed Tryz.func116 rfl (Nat.le_of_ble_eq_true rfl) rfl (fun _ => rfl) (fun _ => by kernel_rfl) fun gm hp => ?_
  unfold Tryz.f116
  simp only [go_sem, ↓reduceIte, Nat.reduceEqDiff, reduceCtorEq, Nat.reduceAdd, Nat.reduceLeDiff, Nat.reduceSub]
  simp only [named]; cases f.purpose != 0 <;> cases f.purpose != 4 <;> simp
noncomputable def E116 : Ent Tryz.prog := Ent.of 116 (fnOk Tryz.func116 rfl (by kernel_rfl)) (fun
    | [.agg [.d (.str f_name), .d (.int .i64 f_kind), .d (.int .i64 f_width), .d (.bool f_signed), .d (.bool f_lowFirst), .d (.int .i64 f_purpose), .d (.str f_for_), .d (.int .i64 f_of), .d (.sl 3 f_choices)]] => (dec encCh f_choices).bind fun f_choices => some (True, .d (.bool (named (Fd.mk f_name f_kind f_width f_signed f_lowFirst f_purpose f_for_ f_of f_choices))))
    | _ => none) fun args p r h => by
    split at h
    · obtain ⟨_, hd0, h0⟩ := Option.bind_eq_some_iff.1 h; clear h; have hd0 := dec_some hd0; subst hd0
      cases h0; exact t116 (Fd.mk _ _ _ _ _ _ _ _ _)
    · cases h
@[go_sem] theorem E116_f : E116.f = 116 := rfl
@[go_sem] theorem E116_c (f_name : ByteArray) (f_kind : Int) (f_width : Int) (f_signed : Bool) (f_lowFirst : Bool) (f_purpose : Int) (f_for_ : ByteArray) (f_of : Int) (f_choices : List (List D)) : E116.c [.agg [.d (.str f_name), .d (.int .i64 f_kind), .d (.int .i64 f_width), .d (.bool f_signed), .d (.bool f_lowFirst), .d (.int .i64 f_purpose), .d (.str f_for_), .d (.int .i64 f_of), .d (.sl 3 f_choices)]] = (dec encCh f_choices).bind fun f_choices => some (True, .d (.bool (named (Fd.mk f_name f_kind f_width f_signed f_lowFirst f_purpose f_for_ f_of f_choices)))) := rfl
def valueKind (kind : Int) : Int := if kind = 0 then 2 else if kind = 1 then 4 else if kind = 2 then 5 else if kind = 3 then 6 else if kind = 6 then 10 else if kind = 7 then 12 else 9
theorem t184 (kind : Int) : PureOk Tryz.prog 184 [.d (.int .i64 kind)] (True) (.d (.int .i64 (valueKind kind))) := by
  refine pure_fn (C := fun gm => ⟨T, gam [], dam [], plT [], ⟨gm, fun _ _ => none⟩⟩) (fun _ => tok) (fun gm => cok T _ _ _ gm) mixed Tryz.func184 rfl (Nat.le_of_ble_eq_true rfl) rfl (fun _ => rfl) (fun _ => by kernel_rfl) fun gm hp => ?_
  unfold Tryz.f184
  simp only [go_sem, ↓reduceIte, Nat.reduceEqDiff, reduceCtorEq, Nat.reduceAdd, Nat.reduceLeDiff, Nat.reduceSub]
  simp only [valueKind]
  repeat' (first | intro _ | apply And.intro)
  all_goals simp_all
noncomputable def E184 : Ent Tryz.prog := Ent.of 184 (fnOk Tryz.func184 rfl (by kernel_rfl)) (fun
    | [.d (.int .i64 kind)] => some (True, .d (.int .i64 (valueKind kind)))
    | _ => none) fun args p r h => by
    split at h
    · skip
      cases h; exact t184 _
    · cases h
@[go_sem] theorem E184_f : E184.f = 184 := rfl
@[go_sem] theorem E184_c (kind : Int) : E184.c [.d (.int .i64 kind)] = some (True, .d (.int .i64 (valueKind kind))) := rfl
end Go.Proofs.YtgnnakibcjonbaaGreatDoor.VE

/- Chapter 16: contracts of slices.IndexFunc and ContainsFunc at a predicate. -/
namespace Go.Proofs.YtgnnakibcjonbaaGreatDoor.VE
open Go Go.RowKit
set_option maxRecDepth 100000
set_option linter.unusedSimpArgs false
set_option linter.unusedVariables false
/-- The index of the first hit, or -1. -/
def idxOf {α : Type} (p : α → Bool) : List α → Int → Int
  | [], _ => -1
  | x :: r, i => if p x then i else idxOf p r (i + 1)
theorem idxOf_hit {α : Type} {p : α → Bool} : ∀ {xs : List α} {n : Nat} {k : Int} {x : α}, (∀ (j : Nat) y, j < n → xs[j]? = some y → p y = false) → xs[n]? = some x → p x = true → idxOf p xs k = k + n
  | [], n, k, x, _, h, _ => by simp at h
  | y :: r, 0, k, x, _, h, hx => by
    simp only [List.getElem?_cons_zero, Option.some.injEq] at h
    subst h
    simp [idxOf, hx]
  | y :: r, n + 1, k, x, hn, h, hx => by
    rw [List.getElem?_cons_succ] at h
    have h0 := hn 0 y (by omega) rfl
    simp only [idxOf, h0, Bool.false_eq_true, if_false]
    rw [idxOf_hit (fun j z hj hz => hn (j + 1) z (by omega) (by rw [List.getElem?_cons_succ]; exact hz)) h hx]
    omega
theorem idxOf_none {α : Type} {p : α → Bool} : ∀ {xs : List α} {k : Int}, (∀ (j : Nat) y, j < xs.length → xs[j]? = some y → p y = false) → idxOf p xs k = -1
  | [], _, _ => rfl
  | y :: r, k, hn => by
    have h0 := hn 0 y (by simp) rfl
    simp only [idxOf, h0, Bool.false_eq_true, if_false]
    exact idxOf_none fun j z hj hz => hn (j + 1) z (by simp; omega) (by rw [List.getElem?_cons_succ]; exact hz)
theorem idxOf_any {α : Type} {p : α → Bool} : ∀ {xs : List α} {k : Int}, 0 ≤ k → (decide (0 ≤ idxOf p xs k)) = xs.any p
  | [], _, _ => rfl
  | y :: r, k, hk => by
    unfold idxOf
    rw [List.any_cons]
    cases h : p y with
    | true => simp [hk]
    | false => simp only [Bool.false_eq_true, if_false, Bool.false_or]; exact idxOf_any (by omega)
/-- Data bounds. -/
theorem PureOk.len {P : Program} {f : FuncId} {args : List V} {p : Prop} {r : V} {m : Nat} {rows : List (List D)} (i : Nat) (hi : args[i]? = some (.d (.sl m rows))) (h : rows.length ≤ maxLen → PureOk P f args p r) : PureOk P f args p r := by
  intro w B ρ L vs hB hgw ho ha hp
  obtain ⟨hlt, e⟩ := List.getElem?_eq_some_iff.1 hi
  have hg := ha.2 i hlt (by rw [ha.1]; exact hlt)
  rw [e, G, Rd] at hg
  obtain ⟨A, c, _, h1, h2, _⟩ := hg
  exact h (Nat.le_trans h1 h2) w B ρ L vs hB hgw ho ha hp
/-- A function value that is called: its function and what it holds. -/
def FnV (P : Program) (cv : V) (g : FuncId) (caps : List V) : Prop := calleeV cv = some (g, caps) ∧ cv.pure = true ∧ caps.all V.pure = true ∧ FnOk P g
/-- A contract of one function, whatever it is, at arguments of one kind. -/
noncomputable def oneEnt {α : Type} (g : FuncId) (fn : FnOk Tryz.prog g) (A : α → List V) (p : α → Prop) (r : α → V) (ok : ∀ x, PureOk Tryz.prog g (A x) (p x) (r x)) : Ent Tryz.prog :=
  Ent.of g fn (fun args => open Classical in if h : ∃ x, A x = args then some (p h.choose, r h.choose) else none) fun args p' r' h => by
    split at h
    · rename_i hx
      simp only [Option.some.injEq, Prod.mk.injEq] at h
      obtain ⟨rfl, rfl⟩ := h
      have := ok hx.choose
      rwa [hx.choose_spec] at this
    · cases h
theorem oneEnt_c {α : Type} {f : FuncId} {fn : FnOk Tryz.prog f} {A : α → List V} {p : α → Prop} {r : α → V} {ok : ∀ x, PureOk Tryz.prog f (A x) (p x) (r x)} (inj : ∀ x y, A x = A y → x = y) (x : α) : (oneEnt f fn A p r ok).c (A x) = some (p x, r x) := by
  simp only [oneEnt, Ent.of]
  have h : ∃ y, A y = A x := ⟨x, rfl⟩
  rw [dif_pos h, inj _ _ h.choose_spec]

theorem pure_ptrOk1 {os : Nat → Option O} {x : V} (h : x.pure1 = true) : ptrOk1 os x = true := by cases x <;> simp [V.pure1] at h <;> rfl
theorem pure_ptrOk {os : Nat → Option O} {x : V} (h : x.pure = true) : ptrOk os x = true := by
  have all1 : ∀ cs : List V, cs.all V.pure1 = true → cs.all (ptrOk1 os) = true := fun cs hc => List.all_eq_true.2 fun v hv => pure_ptrOk1 (List.all_eq_true.1 hc v hv)
  have p2 : ∀ v : V, v.pure1 = true → ptrOk2 os v = true := fun v hv => by cases v <;> simp [V.pure1] at hv <;> rfl
  cases x with
  | agg cs => exact all1 cs h
  | fnc f cs => exact List.all_eq_true.2 fun v hv => p2 v (List.all_eq_true.1 h v hv)
  | _ => first | rfl | (simp [V.pure, V.pure1] at h)
theorem oneEnt_f {α : Type} {f : FuncId} {fn : FnOk Tryz.prog f} {A : α → List V} {p : α → Prop} {r : α → V} {ok : ∀ x, PureOk Tryz.prog f (A x) (p x) (r x)} : (oneEnt f fn A p r ok).f = f := rfl
theorem wrap_small (n : Int) (h0 : -9223372036854775808 ≤ n) (h1 : n ≤ 9223372036854775807) : IntKind.i64.wrap n = n := by rw [IntKind.wrap_i64]; omega

theorem idxF129 (cv : V) (g : FuncId) (caps : List V) (hcv : FnV Tryz.prog cv g caps) (pred : Fd → Bool) (hg : ∀ x : Fd, PureOk Tryz.prog g (.agg [.d (.str x.name), .d (.int .i64 x.kind), .d (.int .i64 x.width), .d (.bool x.signed), .d (.bool x.lowFirst), .d (.int .i64 x.purpose), .d (.str x.for_), .d (.int .i64 x.of), .d (.sl 3 (x.choices.map encCh))] :: caps) True (.d (.bool (pred x)))) (xs : List Fd) :
    PureOk Tryz.prog 129 [.d (.sl 9 (xs.map encFd)), cv] True (.d (.int .i64 (idxOf pred xs 0))) := by
  refine PureOk.len 0 rfl fun hlen => ?_
  obtain ⟨h1, h2, h3, h4⟩ := hcv
  have inj : ∀ x y : Fd, (.agg [.d (.str x.name), .d (.int .i64 x.kind), .d (.int .i64 x.width), .d (.bool x.signed), .d (.bool x.lowFirst), .d (.int .i64 x.purpose), .d (.str x.for_), .d (.int .i64 x.of), .d (.sl 3 (x.choices.map encCh))] :: caps : List V) = .agg [.d (.str y.name), .d (.int .i64 y.kind), .d (.int .i64 y.width), .d (.bool y.signed), .d (.bool y.lowFirst), .d (.int .i64 y.purpose), .d (.str y.for_), .d (.int .i64 y.of), .d (.sl 3 (y.choices.map encCh))] :: caps → x = y := fun x y h => by
    cases x; cases y; simpa [mapCh_inj] using h
  have hc := fun x => oneEnt_c (fn := h4) (p := fun _ => True) (ok := hg) inj x
  have hpk : ∀ os, ptrOk os cv = true := fun os => pure_ptrOk h2
  refine pure_fn (C := fun gm => ⟨T, gam [oneEnt g h4 (fun x : Fd => .agg [.d (.str x.name), .d (.int .i64 x.kind), .d (.int .i64 x.width), .d (.bool x.signed), .d (.bool x.lowFirst), .d (.int .i64 x.purpose), .d (.str x.for_), .d (.int .i64 x.of), .d (.sl 3 (x.choices.map encCh))] :: caps) (fun _ => True) (fun x => .d (.bool (pred x))) hg], dam [], plT [], ⟨gm, fun _ _ => none⟩⟩) (fun _ => tok) (fun gm => cok T _ _ _ gm) mixed Tryz.func129 rfl (Nat.le_of_ble_eq_true rfl) (by simp only [List.all_cons, List.all_nil, h2, Bool.and_true]; rfl) (fun _ => rfl) (fun _ => by kernel_rfl) fun gm hp => ?_
  unfold Tryz.f129
  simp only [go_sem, ↓reduceIte, Nat.reduceEqDiff, reduceCtorEq, Nat.reduceAdd, Nat.reduceLeDiff, Nat.reduceSub]
  refine loop_intro (fun i : Nat => [(0, .d (.sl 9 (xs.map encFd))), (1, cv), (7, .d (.int .i64 xs.length)), (8, .d (.int .i64 i))]) (fun i => i ≤ xs.length ∧ ∀ (j : Nat) y, j < i → xs[j]? = some y → pred y = false) (fun i => xs.length - i) 0 ⟨Nat.zero_le _, fun j y hj => by omega⟩ ?_ fun i hi => ?_
  · simp only [go_sem, ↓reduceIte, Nat.reduceEqDiff, reduceCtorEq, Nat.reduceAdd, Nat.reduceLeDiff, Nat.reduceSub]
    rfl
  · have hl : xs.length ≤ 9223372036854775807 := by simpa [maxLen] using hlen
    simp only [go_sem, ↓reduceIte, Nat.reduceEqDiff, reduceCtorEq, Nat.reduceAdd, Nat.reduceLeDiff, Nat.reduceSub, h1, h2, h3, hc, oneEnt_f, hpk]
    refine ⟨fun hlt => ?_, fun hge => ?_⟩
    · have hlt' : i < xs.length := by simpa using hlt
      refine ⟨⟨by omega, by omega⟩, fun a ha => ⟨?_, ?_⟩⟩
      · intro hpa
        rw [Int.toNat_natCast] at ha
        rw [idxOf_hit hi.2 ha hpa]
        simp
      · intro hpa
        rw [Int.toNat_natCast] at ha
        refine ⟨i + 1, ⟨hlt', fun j y hj hy => ?_⟩, by omega, ?_⟩
        · by_cases c : j = i
          · subst c; rw [ha] at hy; cases hy; exact hpa
          · exact hi.2 j y (by omega) hy
        · rw [wrap_small _ (by omega) (by omega)]
          simp
    · have hge' : ¬ i < xs.length := by simpa using hge
      rw [idxOf_none fun j y hj hy => hi.2 j y (by omega) hy]
theorem idxF96 (cv : V) (g : FuncId) (caps : List V) (hcv : FnV Tryz.prog cv g caps) (pred : Ly → Bool) (hg : ∀ x : Ly, PureOk Tryz.prog g (.agg [.d (.str x.name), .d (.sl 9 (x.fields.map encFd)), .d (.bool x.lowBits)] :: caps) True (.d (.bool (pred x)))) (xs : List Ly) :
    PureOk Tryz.prog 96 [.d (.sl 3 (xs.map encLy)), cv] True (.d (.int .i64 (idxOf pred xs 0))) := by
  refine PureOk.len 0 rfl fun hlen => ?_
  obtain ⟨h1, h2, h3, h4⟩ := hcv
  have inj : ∀ x y : Ly, (.agg [.d (.str x.name), .d (.sl 9 (x.fields.map encFd)), .d (.bool x.lowBits)] :: caps : List V) = .agg [.d (.str y.name), .d (.sl 9 (y.fields.map encFd)), .d (.bool y.lowBits)] :: caps → x = y := fun x y h => by
    cases x; cases y; simpa [mapFd_inj] using h
  have hc := fun x => oneEnt_c (fn := h4) (p := fun _ => True) (ok := hg) inj x
  have hpk : ∀ os, ptrOk os cv = true := fun os => pure_ptrOk h2
  refine pure_fn (C := fun gm => ⟨T, gam [oneEnt g h4 (fun x : Ly => .agg [.d (.str x.name), .d (.sl 9 (x.fields.map encFd)), .d (.bool x.lowBits)] :: caps) (fun _ => True) (fun x => .d (.bool (pred x))) hg], dam [], plT [], ⟨gm, fun _ _ => none⟩⟩) (fun _ => tok) (fun gm => cok T _ _ _ gm) mixed Tryz.func96 rfl (Nat.le_of_ble_eq_true rfl) (by simp only [List.all_cons, List.all_nil, h2, Bool.and_true]; rfl) (fun _ => rfl) (fun _ => by kernel_rfl) fun gm hp => ?_
  unfold Tryz.f96
  simp only [go_sem, ↓reduceIte, Nat.reduceEqDiff, reduceCtorEq, Nat.reduceAdd, Nat.reduceLeDiff, Nat.reduceSub]
  refine loop_intro (fun i : Nat => [(0, .d (.sl 3 (xs.map encLy))), (1, cv), (7, .d (.int .i64 xs.length)), (8, .d (.int .i64 i))]) (fun i => i ≤ xs.length ∧ ∀ (j : Nat) y, j < i → xs[j]? = some y → pred y = false) (fun i => xs.length - i) 0 ⟨Nat.zero_le _, fun j y hj => by omega⟩ ?_ fun i hi => ?_
  · simp only [go_sem, ↓reduceIte, Nat.reduceEqDiff, reduceCtorEq, Nat.reduceAdd, Nat.reduceLeDiff, Nat.reduceSub]
    rfl
  · have hl : xs.length ≤ 9223372036854775807 := by simpa [maxLen] using hlen
    simp only [go_sem, ↓reduceIte, Nat.reduceEqDiff, reduceCtorEq, Nat.reduceAdd, Nat.reduceLeDiff, Nat.reduceSub, h1, h2, h3, hc, oneEnt_f, hpk]
    refine ⟨fun hlt => ?_, fun hge => ?_⟩
    · have hlt' : i < xs.length := by simpa using hlt
      refine ⟨⟨by omega, by omega⟩, fun a ha => ⟨?_, ?_⟩⟩
      · intro hpa
        rw [Int.toNat_natCast] at ha
        rw [idxOf_hit hi.2 ha hpa]
        simp
      · intro hpa
        rw [Int.toNat_natCast] at ha
        refine ⟨i + 1, ⟨hlt', fun j y hj hy => ?_⟩, by omega, ?_⟩
        · by_cases c : j = i
          · subst c; rw [ha] at hy; cases hy; exact hpa
          · exact hi.2 j y (by omega) hy
        · rw [wrap_small _ (by omega) (by omega)]
          simp
    · have hge' : ¬ i < xs.length := by simpa using hge
      rw [idxOf_none fun j y hj hy => hi.2 j y (by omega) hy]
theorem idxF164 (cv : V) (g : FuncId) (caps : List V) (hcv : FnV Tryz.prog cv g caps) (pred : Ch → Bool) (hg : ∀ x : Ch, PureOk Tryz.prog g (.agg [.d (.int .i64 x.number), .d (.int .i64 x.of), .d (.str x.name)] :: caps) True (.d (.bool (pred x)))) (xs : List Ch) :
    PureOk Tryz.prog 164 [.d (.sl 3 (xs.map encCh)), cv] True (.d (.int .i64 (idxOf pred xs 0))) := by
  refine PureOk.len 0 rfl fun hlen => ?_
  obtain ⟨h1, h2, h3, h4⟩ := hcv
  have inj : ∀ x y : Ch, (.agg [.d (.int .i64 x.number), .d (.int .i64 x.of), .d (.str x.name)] :: caps : List V) = .agg [.d (.int .i64 y.number), .d (.int .i64 y.of), .d (.str y.name)] :: caps → x = y := fun x y h => by
    cases x; cases y; simpa using h
  have hc := fun x => oneEnt_c (fn := h4) (p := fun _ => True) (ok := hg) inj x
  have hpk : ∀ os, ptrOk os cv = true := fun os => pure_ptrOk h2
  refine pure_fn (C := fun gm => ⟨T, gam [oneEnt g h4 (fun x : Ch => .agg [.d (.int .i64 x.number), .d (.int .i64 x.of), .d (.str x.name)] :: caps) (fun _ => True) (fun x => .d (.bool (pred x))) hg], dam [], plT [], ⟨gm, fun _ _ => none⟩⟩) (fun _ => tok) (fun gm => cok T _ _ _ gm) mixed Tryz.func164 rfl (Nat.le_of_ble_eq_true rfl) (by simp only [List.all_cons, List.all_nil, h2, Bool.and_true]; rfl) (fun _ => rfl) (fun _ => by kernel_rfl) fun gm hp => ?_
  unfold Tryz.f164
  simp only [go_sem, ↓reduceIte, Nat.reduceEqDiff, reduceCtorEq, Nat.reduceAdd, Nat.reduceLeDiff, Nat.reduceSub]
  refine loop_intro (fun i : Nat => [(0, .d (.sl 3 (xs.map encCh))), (1, cv), (7, .d (.int .i64 xs.length)), (8, .d (.int .i64 i))]) (fun i => i ≤ xs.length ∧ ∀ (j : Nat) y, j < i → xs[j]? = some y → pred y = false) (fun i => xs.length - i) 0 ⟨Nat.zero_le _, fun j y hj => by omega⟩ ?_ fun i hi => ?_
  · simp only [go_sem, ↓reduceIte, Nat.reduceEqDiff, reduceCtorEq, Nat.reduceAdd, Nat.reduceLeDiff, Nat.reduceSub]
    rfl
  · have hl : xs.length ≤ 9223372036854775807 := by simpa [maxLen] using hlen
    simp only [go_sem, ↓reduceIte, Nat.reduceEqDiff, reduceCtorEq, Nat.reduceAdd, Nat.reduceLeDiff, Nat.reduceSub, h1, h2, h3, hc, oneEnt_f, hpk]
    refine ⟨fun hlt => ?_, fun hge => ?_⟩
    · have hlt' : i < xs.length := by simpa using hlt
      refine ⟨⟨by omega, by omega⟩, fun a ha => ⟨?_, ?_⟩⟩
      · intro hpa
        rw [Int.toNat_natCast] at ha
        rw [idxOf_hit hi.2 ha hpa]
        simp
      · intro hpa
        rw [Int.toNat_natCast] at ha
        refine ⟨i + 1, ⟨hlt', fun j y hj hy => ?_⟩, by omega, ?_⟩
        · by_cases c : j = i
          · subst c; rw [ha] at hy; cases hy; exact hpa
          · exact hi.2 j y (by omega) hy
        · rw [wrap_small _ (by omega) (by omega)]
          simp
    · have hge' : ¬ i < xs.length := by simpa using hge
      rw [idxOf_none fun j y hj hy => hi.2 j y (by omega) hy]
theorem idxF175 (cv : V) (g : FuncId) (caps : List V) (hcv : FnV Tryz.prog cv g caps) (pred : Int → Bool) (hg : ∀ x : Int, PureOk Tryz.prog g (.d (.int .i64 x) :: caps) True (.d (.bool (pred x)))) (xs : List Int) :
    PureOk Tryz.prog 175 [.d (.sl 1 (xs.map encI)), cv] True (.d (.int .i64 (idxOf pred xs 0))) := by
  refine PureOk.len 0 rfl fun hlen => ?_
  obtain ⟨h1, h2, h3, h4⟩ := hcv
  have inj : ∀ x y : Int, (.d (.int .i64 x) :: caps : List V) = .d (.int .i64 y) :: caps → x = y := fun x y h => by
    simpa using h
  have hc := fun x => oneEnt_c (fn := h4) (p := fun _ => True) (ok := hg) inj x
  have hpk : ∀ os, ptrOk os cv = true := fun os => pure_ptrOk h2
  refine pure_fn (C := fun gm => ⟨T, gam [oneEnt g h4 (fun x : Int => .d (.int .i64 x) :: caps) (fun _ => True) (fun x => .d (.bool (pred x))) hg], dam [], plT [], ⟨gm, fun _ _ => none⟩⟩) (fun _ => tok) (fun gm => cok T _ _ _ gm) mixed Tryz.func175 rfl (Nat.le_of_ble_eq_true rfl) (by simp only [List.all_cons, List.all_nil, h2, Bool.and_true]; rfl) (fun _ => rfl) (fun _ => by kernel_rfl) fun gm hp => ?_
  unfold Tryz.f175
  simp only [go_sem, ↓reduceIte, Nat.reduceEqDiff, reduceCtorEq, Nat.reduceAdd, Nat.reduceLeDiff, Nat.reduceSub]
  refine loop_intro (fun i : Nat => [(0, .d (.sl 1 (xs.map encI))), (1, cv), (7, .d (.int .i64 xs.length)), (8, .d (.int .i64 i))]) (fun i => i ≤ xs.length ∧ ∀ (j : Nat) y, j < i → xs[j]? = some y → pred y = false) (fun i => xs.length - i) 0 ⟨Nat.zero_le _, fun j y hj => by omega⟩ ?_ fun i hi => ?_
  · simp only [go_sem, ↓reduceIte, Nat.reduceEqDiff, reduceCtorEq, Nat.reduceAdd, Nat.reduceLeDiff, Nat.reduceSub]
    rfl
  · have hl : xs.length ≤ 9223372036854775807 := by simpa [maxLen] using hlen
    simp only [go_sem, ↓reduceIte, Nat.reduceEqDiff, reduceCtorEq, Nat.reduceAdd, Nat.reduceLeDiff, Nat.reduceSub, h1, h2, h3, hc, oneEnt_f, hpk]
    refine ⟨fun hlt => ?_, fun hge => ?_⟩
    · have hlt' : i < xs.length := by simpa using hlt
      refine ⟨⟨by omega, by omega⟩, fun a ha => ⟨?_, ?_⟩⟩
      · intro hpa
        rw [Int.toNat_natCast] at ha
        rw [idxOf_hit hi.2 ha hpa]
        simp
      · intro hpa
        rw [Int.toNat_natCast] at ha
        refine ⟨i + 1, ⟨hlt', fun j y hj hy => ?_⟩, by omega, ?_⟩
        · by_cases c : j = i
          · subst c; rw [ha] at hy; cases hy; exact hpa
          · exact hi.2 j y (by omega) hy
        · rw [wrap_small _ (by omega) (by omega)]
          simp
    · have hge' : ¬ i < xs.length := by simpa using hge
      rw [idxOf_none fun j y hj hy => hi.2 j y (by omega) hy]
theorem idxF266 (cv : V) (g : FuncId) (caps : List V) (hcv : FnV Tryz.prog cv g caps) (pred : ByteArray → Bool) (hg : ∀ x : ByteArray, PureOk Tryz.prog g (.d (.str x) :: caps) True (.d (.bool (pred x)))) (xs : List ByteArray) :
    PureOk Tryz.prog 266 [.d (.sl 1 (xs.map encS)), cv] True (.d (.int .i64 (idxOf pred xs 0))) := by
  refine PureOk.len 0 rfl fun hlen => ?_
  obtain ⟨h1, h2, h3, h4⟩ := hcv
  have inj : ∀ x y : ByteArray, (.d (.str x) :: caps : List V) = .d (.str y) :: caps → x = y := fun x y h => by
    simpa using h
  have hc := fun x => oneEnt_c (fn := h4) (p := fun _ => True) (ok := hg) inj x
  have hpk : ∀ os, ptrOk os cv = true := fun os => pure_ptrOk h2
  refine pure_fn (C := fun gm => ⟨T, gam [oneEnt g h4 (fun x : ByteArray => .d (.str x) :: caps) (fun _ => True) (fun x => .d (.bool (pred x))) hg], dam [], plT [], ⟨gm, fun _ _ => none⟩⟩) (fun _ => tok) (fun gm => cok T _ _ _ gm) mixed Tryz.func266 rfl (Nat.le_of_ble_eq_true rfl) (by simp only [List.all_cons, List.all_nil, h2, Bool.and_true]; rfl) (fun _ => rfl) (fun _ => by kernel_rfl) fun gm hp => ?_
  unfold Tryz.f266
  simp only [go_sem, ↓reduceIte, Nat.reduceEqDiff, reduceCtorEq, Nat.reduceAdd, Nat.reduceLeDiff, Nat.reduceSub]
  refine loop_intro (fun i : Nat => [(0, .d (.sl 1 (xs.map encS))), (1, cv), (7, .d (.int .i64 xs.length)), (8, .d (.int .i64 i))]) (fun i => i ≤ xs.length ∧ ∀ (j : Nat) y, j < i → xs[j]? = some y → pred y = false) (fun i => xs.length - i) 0 ⟨Nat.zero_le _, fun j y hj => by omega⟩ ?_ fun i hi => ?_
  · simp only [go_sem, ↓reduceIte, Nat.reduceEqDiff, reduceCtorEq, Nat.reduceAdd, Nat.reduceLeDiff, Nat.reduceSub]
    rfl
  · have hl : xs.length ≤ 9223372036854775807 := by simpa [maxLen] using hlen
    simp only [go_sem, ↓reduceIte, Nat.reduceEqDiff, reduceCtorEq, Nat.reduceAdd, Nat.reduceLeDiff, Nat.reduceSub, h1, h2, h3, hc, oneEnt_f, hpk]
    refine ⟨fun hlt => ?_, fun hge => ?_⟩
    · have hlt' : i < xs.length := by simpa using hlt
      refine ⟨⟨by omega, by omega⟩, fun a ha => ⟨?_, ?_⟩⟩
      · intro hpa
        rw [Int.toNat_natCast] at ha
        rw [idxOf_hit hi.2 ha hpa]
        simp
      · intro hpa
        rw [Int.toNat_natCast] at ha
        refine ⟨i + 1, ⟨hlt', fun j y hj hy => ?_⟩, by omega, ?_⟩
        · by_cases c : j = i
          · subst c; rw [ha] at hy; cases hy; exact hpa
          · exact hi.2 j y (by omega) hy
        · rw [wrap_small _ (by omega) (by omega)]
          simp
    · have hge' : ¬ i < xs.length := by simpa using hge
      rw [idxOf_none fun j y hj hy => hi.2 j y (by omega) hy]
theorem conF113 (cv : V) (g : FuncId) (caps : List V) (hcv : FnV Tryz.prog cv g caps) (pred : Fd → Bool) (hg : ∀ x : Fd, PureOk Tryz.prog g (.agg [.d (.str x.name), .d (.int .i64 x.kind), .d (.int .i64 x.width), .d (.bool x.signed), .d (.bool x.lowFirst), .d (.int .i64 x.purpose), .d (.str x.for_), .d (.int .i64 x.of), .d (.sl 3 (x.choices.map encCh))] :: caps) True (.d (.bool (pred x)))) (xs : List Fd) :
    PureOk Tryz.prog 113 [.d (.sl 9 (xs.map encFd)), cv] True (.d (.bool (xs.any pred))) := by
  have inj : ∀ x y : List Fd, ([.d (.sl 9 (x.map encFd)), cv] : List V) = [.d (.sl 9 (y.map encFd)), cv] → x = y := fun x y h => by
    simp only [List.cons.injEq, V.d.injEq, D.sl.injEq, true_and, and_true] at h
    exact map_inj' encFd_inj x y h
  have hc := fun x => oneEnt_c (fn := fnOk Tryz.func129 rfl (by kernel_rfl)) (p := fun _ => True) (ok := fun x => idxF129 cv g caps hcv pred hg x) inj x
  have hpk : ∀ os, ptrOk os cv = true := fun os => pure_ptrOk hcv.2.1
  refine pure_fn (C := fun gm => ⟨T, gam [oneEnt 129 (fnOk Tryz.func129 rfl (by kernel_rfl)) (fun x : List Fd => [.d (.sl 9 (x.map encFd)), cv]) (fun _ => True) (fun x => .d (.int .i64 (idxOf pred x 0))) (fun x => idxF129 cv g caps hcv pred hg x)], dam [], plT [], ⟨gm, fun _ _ => none⟩⟩) (fun _ => tok) (fun gm => cok T _ _ _ gm) mixed Tryz.func113 rfl (Nat.le_of_ble_eq_true rfl) (by simp only [List.all_cons, List.all_nil, hcv.2.1, Bool.and_true]; rfl) (fun _ => rfl) (fun _ => by kernel_rfl) fun gm hp => ?_
  unfold Tryz.f113
  simp only [go_sem, ↓reduceIte, Nat.reduceEqDiff, reduceCtorEq, Nat.reduceAdd, Nat.reduceLeDiff, Nat.reduceSub, hcv.2.1, hc, oneEnt_f, hpk]
  rw [idxOf_any (by omega)]
theorem conF64 (cv : V) (g : FuncId) (caps : List V) (hcv : FnV Tryz.prog cv g caps) (pred : Ly → Bool) (hg : ∀ x : Ly, PureOk Tryz.prog g (.agg [.d (.str x.name), .d (.sl 9 (x.fields.map encFd)), .d (.bool x.lowBits)] :: caps) True (.d (.bool (pred x)))) (xs : List Ly) :
    PureOk Tryz.prog 64 [.d (.sl 3 (xs.map encLy)), cv] True (.d (.bool (xs.any pred))) := by
  have inj : ∀ x y : List Ly, ([.d (.sl 3 (x.map encLy)), cv] : List V) = [.d (.sl 3 (y.map encLy)), cv] → x = y := fun x y h => by
    simp only [List.cons.injEq, V.d.injEq, D.sl.injEq, true_and, and_true] at h
    exact map_inj' encLy_inj x y h
  have hc := fun x => oneEnt_c (fn := fnOk Tryz.func96 rfl (by kernel_rfl)) (p := fun _ => True) (ok := fun x => idxF96 cv g caps hcv pred hg x) inj x
  have hpk : ∀ os, ptrOk os cv = true := fun os => pure_ptrOk hcv.2.1
  refine pure_fn (C := fun gm => ⟨T, gam [oneEnt 96 (fnOk Tryz.func96 rfl (by kernel_rfl)) (fun x : List Ly => [.d (.sl 3 (x.map encLy)), cv]) (fun _ => True) (fun x => .d (.int .i64 (idxOf pred x 0))) (fun x => idxF96 cv g caps hcv pred hg x)], dam [], plT [], ⟨gm, fun _ _ => none⟩⟩) (fun _ => tok) (fun gm => cok T _ _ _ gm) mixed Tryz.func64 rfl (Nat.le_of_ble_eq_true rfl) (by simp only [List.all_cons, List.all_nil, hcv.2.1, Bool.and_true]; rfl) (fun _ => rfl) (fun _ => by kernel_rfl) fun gm hp => ?_
  unfold Tryz.f64
  simp only [go_sem, ↓reduceIte, Nat.reduceEqDiff, reduceCtorEq, Nat.reduceAdd, Nat.reduceLeDiff, Nat.reduceSub, hcv.2.1, hc, oneEnt_f, hpk]
  rw [idxOf_any (by omega)]
theorem conF124 (cv : V) (g : FuncId) (caps : List V) (hcv : FnV Tryz.prog cv g caps) (pred : Ch → Bool) (hg : ∀ x : Ch, PureOk Tryz.prog g (.agg [.d (.int .i64 x.number), .d (.int .i64 x.of), .d (.str x.name)] :: caps) True (.d (.bool (pred x)))) (xs : List Ch) :
    PureOk Tryz.prog 124 [.d (.sl 3 (xs.map encCh)), cv] True (.d (.bool (xs.any pred))) := by
  have inj : ∀ x y : List Ch, ([.d (.sl 3 (x.map encCh)), cv] : List V) = [.d (.sl 3 (y.map encCh)), cv] → x = y := fun x y h => by
    simp only [List.cons.injEq, V.d.injEq, D.sl.injEq, true_and, and_true] at h
    exact map_inj' encCh_inj x y h
  have hc := fun x => oneEnt_c (fn := fnOk Tryz.func164 rfl (by kernel_rfl)) (p := fun _ => True) (ok := fun x => idxF164 cv g caps hcv pred hg x) inj x
  have hpk : ∀ os, ptrOk os cv = true := fun os => pure_ptrOk hcv.2.1
  refine pure_fn (C := fun gm => ⟨T, gam [oneEnt 164 (fnOk Tryz.func164 rfl (by kernel_rfl)) (fun x : List Ch => [.d (.sl 3 (x.map encCh)), cv]) (fun _ => True) (fun x => .d (.int .i64 (idxOf pred x 0))) (fun x => idxF164 cv g caps hcv pred hg x)], dam [], plT [], ⟨gm, fun _ _ => none⟩⟩) (fun _ => tok) (fun gm => cok T _ _ _ gm) mixed Tryz.func124 rfl (Nat.le_of_ble_eq_true rfl) (by simp only [List.all_cons, List.all_nil, hcv.2.1, Bool.and_true]; rfl) (fun _ => rfl) (fun _ => by kernel_rfl) fun gm hp => ?_
  unfold Tryz.f124
  simp only [go_sem, ↓reduceIte, Nat.reduceEqDiff, reduceCtorEq, Nat.reduceAdd, Nat.reduceLeDiff, Nat.reduceSub, hcv.2.1, hc, oneEnt_f, hpk]
  rw [idxOf_any (by omega)]
theorem conF117 (cv : V) (g : FuncId) (caps : List V) (hcv : FnV Tryz.prog cv g caps) (pred : Int → Bool) (hg : ∀ x : Int, PureOk Tryz.prog g (.d (.int .i64 x) :: caps) True (.d (.bool (pred x)))) (xs : List Int) :
    PureOk Tryz.prog 117 [.d (.sl 1 (xs.map encI)), cv] True (.d (.bool (xs.any pred))) := by
  have inj : ∀ x y : List Int, ([.d (.sl 1 (x.map encI)), cv] : List V) = [.d (.sl 1 (y.map encI)), cv] → x = y := fun x y h => by
    simp only [List.cons.injEq, V.d.injEq, D.sl.injEq, true_and, and_true] at h
    exact map_inj' encI_inj x y h
  have hc := fun x => oneEnt_c (fn := fnOk Tryz.func175 rfl (by kernel_rfl)) (p := fun _ => True) (ok := fun x => idxF175 cv g caps hcv pred hg x) inj x
  have hpk : ∀ os, ptrOk os cv = true := fun os => pure_ptrOk hcv.2.1
  refine pure_fn (C := fun gm => ⟨T, gam [oneEnt 175 (fnOk Tryz.func175 rfl (by kernel_rfl)) (fun x : List Int => [.d (.sl 1 (x.map encI)), cv]) (fun _ => True) (fun x => .d (.int .i64 (idxOf pred x 0))) (fun x => idxF175 cv g caps hcv pred hg x)], dam [], plT [], ⟨gm, fun _ _ => none⟩⟩) (fun _ => tok) (fun gm => cok T _ _ _ gm) mixed Tryz.func117 rfl (Nat.le_of_ble_eq_true rfl) (by simp only [List.all_cons, List.all_nil, hcv.2.1, Bool.and_true]; rfl) (fun _ => rfl) (fun _ => by kernel_rfl) fun gm hp => ?_
  unfold Tryz.f117
  simp only [go_sem, ↓reduceIte, Nat.reduceEqDiff, reduceCtorEq, Nat.reduceAdd, Nat.reduceLeDiff, Nat.reduceSub, hcv.2.1, hc, oneEnt_f, hpk]
  rw [idxOf_any (by omega)]
theorem conF226 (cv : V) (g : FuncId) (caps : List V) (hcv : FnV Tryz.prog cv g caps) (pred : ByteArray → Bool) (hg : ∀ x : ByteArray, PureOk Tryz.prog g (.d (.str x) :: caps) True (.d (.bool (pred x)))) (xs : List ByteArray) :
    PureOk Tryz.prog 226 [.d (.sl 1 (xs.map encS)), cv] True (.d (.bool (xs.any pred))) := by
  have inj : ∀ x y : List ByteArray, ([.d (.sl 1 (x.map encS)), cv] : List V) = [.d (.sl 1 (y.map encS)), cv] → x = y := fun x y h => by
    simp only [List.cons.injEq, V.d.injEq, D.sl.injEq, true_and, and_true] at h
    exact map_inj' encS_inj x y h
  have hc := fun x => oneEnt_c (fn := fnOk Tryz.func266 rfl (by kernel_rfl)) (p := fun _ => True) (ok := fun x => idxF266 cv g caps hcv pred hg x) inj x
  have hpk : ∀ os, ptrOk os cv = true := fun os => pure_ptrOk hcv.2.1
  refine pure_fn (C := fun gm => ⟨T, gam [oneEnt 266 (fnOk Tryz.func266 rfl (by kernel_rfl)) (fun x : List ByteArray => [.d (.sl 1 (x.map encS)), cv]) (fun _ => True) (fun x => .d (.int .i64 (idxOf pred x 0))) (fun x => idxF266 cv g caps hcv pred hg x)], dam [], plT [], ⟨gm, fun _ _ => none⟩⟩) (fun _ => tok) (fun gm => cok T _ _ _ gm) mixed Tryz.func226 rfl (Nat.le_of_ble_eq_true rfl) (by simp only [List.all_cons, List.all_nil, hcv.2.1, Bool.and_true]; rfl) (fun _ => rfl) (fun _ => by kernel_rfl) fun gm hp => ?_
  unfold Tryz.f226
  simp only [go_sem, ↓reduceIte, Nat.reduceEqDiff, reduceCtorEq, Nat.reduceAdd, Nat.reduceLeDiff, Nat.reduceSub, hcv.2.1, hc, oneEnt_f, hpk]
  rw [idxOf_any (by omega)]
end Go.Proofs.YtgnnakibcjonbaaGreatDoor.VE

/- Chapter 16: strings.IndexFunc and ContainsFunc at a predicate. -/
namespace Go.Proofs.YtgnnakibcjonbaaGreatDoor.VE
open Go Go.RowKit
set_option maxRecDepth 100000
set_option linter.unusedSimpArgs false
set_option linter.unusedVariables false
/-- The place of the first character that meets a predicate, or -1. -/
def idxRune (p : Int → Bool) (s : ByteArray) : Nat → Nat → Int
  | 0, _ => -1
  | n + 1, pos => if pos < s.size then (if p (Utf8.decode s pos).1 then pos else idxRune p s n (pos + (Utf8.decode s pos).2)) else -1
theorem decode_width (s : ByteArray) (pos : Nat) (h : pos < s.size) : 1 ≤ (Utf8.decode s pos).2 := by
  by_cases ha : (s[pos]'h).toNat < 128
  · rw [decode_ascii s pos h ha]; exact Nat.le_refl _
  · exact (decode_high s pos h (by omega)).2
theorem osL_upd (t : Nat) (x : O) (l : List (Nat × O)) : upd (osL l) t (some x) = osL ((t, x) :: l) := by
  funext q
  simp only [upd, osL]
theorem osL_none : (fun _ => none : Nat → Option O) = osL [] := rfl
theorem osL_dup (t : Nat) (x y : O) (l : List (Nat × O)) : osL ((t, x) :: (t, y) :: l) = osL ((t, x) :: l) := by
  funext q
  simp only [osL]
  split <;> rfl
theorem t218 (cv : V) (g : FuncId) (caps : List V) (hcv : FnV Tryz.prog cv g caps) (pred : Int → Bool) (hg : ∀ c : Int, PureOk Tryz.prog g (.d (.int .i32 c) :: caps) True (.d (.bool (pred c)))) (s : ByteArray) :
    PureOk Tryz.prog 218 [.d (.str s), cv, .d (.bool true)] True (.d (.int .i64 (idxRune pred s (s.size + 1) 0))) := by
  obtain ⟨h1, h2, h3, h4⟩ := hcv
  have inj : ∀ x y : Int, (.d (.int .i32 x) :: caps : List V) = .d (.int .i32 y) :: caps → x = y := fun x y h => by simpa using h
  have hc := fun x => oneEnt_c (fn := h4) (p := fun _ => True) (ok := hg) inj x
  have hpk : ∀ os, ptrOk os cv = true := fun os => pure_ptrOk h2
  refine pure_fn (C := fun gm => ⟨T, gam [oneEnt g h4 (fun x : Int => .d (.int .i32 x) :: caps) (fun _ => True) (fun x => .d (.bool (pred x))) hg], dam [], plT [], ⟨gm, fun _ _ => none⟩⟩) (fun _ => tok) (fun gm => cok T _ _ _ gm) mixed Tryz.func218 rfl (Nat.le_of_ble_eq_true rfl) (by simp only [List.all_cons, List.all_nil, h2, Bool.and_true, Bool.true_and]; rfl) (fun _ => rfl) (fun _ => by kernel_rfl) fun gm hp => ?_
  unfold Tryz.f218
  simp only [go_sem, ↓reduceIte, Nat.reduceEqDiff, reduceCtorEq, Nat.reduceAdd, Nat.reduceLeDiff, Nat.reduceSub]
  refine loop_objs [] (by simp) (fun pos : Nat => osL [(10, .raw (.iter s pos))]) (fun _ => [(0, .d (.str s)), (1, cv), (2, .d (.bool true)), (10, .row 10)]) (fun pos => ∃ n, s.size < pos + n ∧ idxRune pred s (s.size + 1) 0 = idxRune pred s n pos) (fun pos => s.size + 1 - pos) 0 ⟨s.size + 1, by omega, rfl⟩ ?_ fun pos hpos => ?_
  · simp only [go_sem, ↓reduceIte, Nat.reduceEqDiff, reduceCtorEq, Nat.reduceAdd, Nat.reduceLeDiff, Nat.reduceSub]
    rw [osL_none, osL_upd]
  · obtain ⟨n, hn, e⟩ := hpos
    by_cases hlt : pos < s.size
    · simp only [go_sem, ↓reduceIte, Nat.reduceEqDiff, reduceCtorEq, Nat.reduceAdd, Nat.reduceLeDiff, Nat.reduceSub, hlt, h1, h2, h3, hc, oneEnt_f, hpk]
      obtain ⟨m, rfl⟩ : ∃ m, n = m + 1 := ⟨n - 1, by omega⟩
      have e2 : idxRune pred s (m + 1) pos = if pred (Utf8.decode s pos).1 then (pos : Int) else idxRune pred s m (pos + (Utf8.decode s pos).2) := by simp only [idxRune, if_pos hlt]
      rw [e2] at e
      refine ⟨⟨fun hpa => ?_, fun hpa => ?_⟩, fun h => h.elim⟩
      · have hpa' : pred (Utf8.decode s pos).1 = true := by simpa using hpa
        rw [hpa', if_pos rfl] at e
        rw [e]
      · have hpa' : pred (Utf8.decode s pos).1 = false := by simpa using hpa
        rw [hpa', if_neg (by simp)] at e
        have hw := decode_width s pos hlt
        refine ⟨pos + (Utf8.decode s pos).2, ⟨m, by omega, e⟩, by omega, ?_⟩
        rw [osL_upd, osL_dup]
    · simp only [go_sem, ↓reduceIte, Nat.reduceEqDiff, reduceCtorEq, Nat.reduceAdd, Nat.reduceLeDiff, Nat.reduceSub, hlt]
      refine ⟨fun h => h.elim, ?_⟩
      cases n with
      | zero => rw [e]; rfl
      | succ n => rw [e]; simp only [idxRune, if_neg hlt]
theorem t174 (cv : V) (g : FuncId) (caps : List V) (hcv : FnV Tryz.prog cv g caps) (pred : Int → Bool) (hg : ∀ c : Int, PureOk Tryz.prog g (.d (.int .i32 c) :: caps) True (.d (.bool (pred c)))) (s : ByteArray) :
    PureOk Tryz.prog 174 [.d (.str s), cv] True (.d (.int .i64 (idxRune pred s (s.size + 1) 0))) := by
  have inj : ∀ x y : ByteArray, ([.d (.str x), cv, .d (.bool true)] : List V) = [.d (.str y), cv, .d (.bool true)] → x = y := fun x y h => by simpa using h
  have hc := fun x => oneEnt_c (fn := fnOk Tryz.func218 rfl (by kernel_rfl)) (p := fun _ => True) (ok := fun x => t218 cv g caps hcv pred hg x) inj x
  have hpk : ∀ os, ptrOk os cv = true := fun os => pure_ptrOk hcv.2.1
  refine pure_fn (C := fun gm => ⟨T, gam [oneEnt 218 (fnOk Tryz.func218 rfl (by kernel_rfl)) (fun x : ByteArray => [.d (.str x), cv, .d (.bool true)]) (fun _ => True) (fun x => .d (.int .i64 (idxRune pred x (x.size + 1) 0))) (fun x => t218 cv g caps hcv pred hg x)], dam [], plT [], ⟨gm, fun _ _ => none⟩⟩) (fun _ => tok) (fun gm => cok T _ _ _ gm) mixed Tryz.func174 rfl (Nat.le_of_ble_eq_true rfl) (by simp only [List.all_cons, List.all_nil, hcv.2.1, Bool.and_true]; rfl) (fun _ => rfl) (fun _ => by kernel_rfl) fun gm hp => ?_
  unfold Tryz.f174
  simp only [go_sem, ↓reduceIte, Nat.reduceEqDiff, reduceCtorEq, Nat.reduceAdd, Nat.reduceLeDiff, Nat.reduceSub, hcv.2.1, hc, oneEnt_f, hpk]
theorem t109 (cv : V) (g : FuncId) (caps : List V) (hcv : FnV Tryz.prog cv g caps) (pred : Int → Bool) (hg : ∀ c : Int, PureOk Tryz.prog g (.d (.int .i32 c) :: caps) True (.d (.bool (pred c)))) (s : ByteArray) :
    PureOk Tryz.prog 109 [.d (.str s), cv] True (.d (.bool (decide (0 ≤ idxRune pred s (s.size + 1) 0)))) := by
  have inj : ∀ x y : ByteArray, ([.d (.str x), cv] : List V) = [.d (.str y), cv] → x = y := fun x y h => by simpa using h
  have hc := fun x => oneEnt_c (fn := fnOk Tryz.func174 rfl (by kernel_rfl)) (p := fun _ => True) (ok := fun x => t174 cv g caps hcv pred hg x) inj x
  have hpk : ∀ os, ptrOk os cv = true := fun os => pure_ptrOk hcv.2.1
  refine pure_fn (C := fun gm => ⟨T, gam [oneEnt 174 (fnOk Tryz.func174 rfl (by kernel_rfl)) (fun x : ByteArray => [.d (.str x), cv]) (fun _ => True) (fun x => .d (.int .i64 (idxRune pred x (x.size + 1) 0))) (fun x => t174 cv g caps hcv pred hg x)], dam [], plT [], ⟨gm, fun _ _ => none⟩⟩) (fun _ => tok) (fun gm => cok T _ _ _ gm) mixed Tryz.func109 rfl (Nat.le_of_ble_eq_true rfl) (by simp only [List.all_cons, List.all_nil, hcv.2.1, Bool.and_true]; rfl) (fun _ => rfl) (fun _ => by kernel_rfl) fun gm hp => ?_
  unfold Tryz.f109
  simp only [go_sem, ↓reduceIte, Nat.reduceEqDiff, reduceCtorEq, Nat.reduceAdd, Nat.reduceLeDiff, Nat.reduceSub, hcv.2.1, hc, oneEnt_f, hpk]
/-- A predicate that all characters beyond ASCII meet: it is met by a character if and only if it is met by a byte. -/
def anyByte (p : Int → Bool) (s : ByteArray) : Bool := s.data.toList.any fun b => p (b.toNat : Int)
theorem idxRune_any {p : Int → Bool} (hp : ∀ c : Int, 128 ≤ c → p c = true) (s : ByteArray) : ∀ (n pos : Nat), s.size < pos + n → decide (0 ≤ idxRune p s n pos) = (s.data.toList.drop pos).any fun b => p (b.toNat : Int)
  | 0, pos, h => by
    have : s.data.toList.drop pos = [] := List.drop_eq_nil_of_le (by simp; show s.size ≤ pos; omega)
    rw [this]; rfl
  | n + 1, pos, h => by
    unfold idxRune
    by_cases hlt : pos < s.size
    · rw [if_pos hlt]
      have hl : pos < s.data.toList.length := by simpa using hlt
      have hd : s.data.toList.drop pos = s[pos] :: s.data.toList.drop (pos + 1) := by rw [List.drop_eq_getElem_cons hl]; rfl
      rw [hd, List.any_cons]
      by_cases ha : (s[pos]'hlt).toNat < 128
      · rw [decode_ascii s pos hlt ha]
        simp only
        cases h2 : p ((s[pos]'hlt).toNat : Int) with
        | true => simp only [if_true, Bool.true_or, decide_eq_true_eq]; omega
        | false =>
          simp only [Bool.false_eq_true, if_false, Bool.false_or]
          exact idxRune_any hp s n (pos + 1) (by omega)
      · have h1 := (decode_high s pos hlt (by omega)).1
        rw [hp _ (by omega), if_pos rfl, hp _ (by omega)]
        simp only [Bool.true_or, decide_eq_true_eq]
        omega
    · rw [if_neg hlt]
      have : s.data.toList.drop pos = [] := List.drop_eq_nil_of_le (by simp; show s.size ≤ pos; omega)
      rw [this]; rfl
theorem conS (cv : V) (g : FuncId) (caps : List V) (hcv : FnV Tryz.prog cv g caps) (pred : Int → Bool) (hp : ∀ c : Int, 128 ≤ c → pred c = true) (hg : ∀ c : Int, PureOk Tryz.prog g (.d (.int .i32 c) :: caps) True (.d (.bool (pred c)))) (s : ByteArray) :
    PureOk Tryz.prog 109 [.d (.str s), cv] True (.d (.bool (anyByte pred s))) := by
  have := t109 cv g caps hcv pred hg s
  rwa [idxRune_any hp s _ 0 (by omega), List.drop_zero] at this
end Go.Proofs.YtgnnakibcjonbaaGreatDoor.VE

/- The evaluator as a program: operations. What it tells holds in the evaluator. -/
namespace Go.Proofs.YtgnnakibcjonbaaGreatDoor.VE
open Go Go.RowKit
set_option linter.unusedVariables false
set_option linter.unusedSimpArgs false
/-- The contracts' conditions hold. -/
structure Sure (C : Cx) : Prop where
  g : ∀ f args p r, C.Γ f args = some (p, r) → p
  d : ∀ f args fp p r fp', C.Δ f args fp = some (p, r, fp') → p
  x : ∀ f args, C.gm.ext f args = none
def pickB (t : Bool) (x y : V) : Bool :=
  match t, x, y with
  | true, .whn q _, _ => q
  | false, _, .whn q _ => q
  | true, .top, _ => false
  | false, _, .top => false
  | _, _, _ => true
theorem pickB_ok {t : Bool} {x y : V} {p : Prop} {r : V} (h : pickV t x y = some (p, r)) (hb : pickB t x y = true) : p := by
  unfold pickV at h
  split at h <;> simp only [Option.some.injEq, Prod.mk.injEq, reduceCtorEq] at h
  all_goals
    obtain ⟨rfl, rfl⟩ := h
    cases t <;> simp_all [pickB]
def binB (op : BinOp) (x y : V) : Bool :=
  match x, y with
  | .d (.int _ _), .d (.int _ b) => match op with
    | .shl | .shr => decide (0 ≤ b)
    | .quo | .rem => !decide (b = 0)
    | _ => true
  | .d (.str a), .d (.str b) => match op with
    | .add => decide (a.size + b.size ≤ 9223372036854775807)
    | _ => true
  | _, _ => true
theorem binB_ok {C : Cx} {op : BinOp} {t : TypeId} {x y : V} {p : Prop} {r : V} (h : binV C op t x y = some (p, r)) (hb : binB op x y = true) : p := by
  unfold binV at h
  split at h
  · split at h
    · rename_i c; subst c
      simp only [Option.some.injEq, Prod.mk.injEq] at h
      obtain ⟨rfl, rfl⟩ := h
      simpa [binB] using hb
    · split at h
      · rename_i c; subst c
        simp only [Option.some.injEq, Prod.mk.injEq] at h
        obtain ⟨rfl, rfl⟩ := h
        simpa [binB] using hb
      · split at h
        · cases op <;> simp only [intV, Option.some.injEq, Prod.mk.injEq, reduceCtorEq] at h <;> obtain ⟨rfl, rfl⟩ := h <;> first | trivial | simpa [binB] using hb
        · cases h
  · cases op <;> simp only [strV, Option.some.injEq, Prod.mk.injEq, reduceCtorEq] at h <;> obtain ⟨rfl, rfl⟩ := h <;> first | trivial | simpa [binB] using hb
  · split at h
    · split at h
      · simp only [Option.some.injEq, Prod.mk.injEq] at h; rw [← h.1]; trivial
      · split at h
        · simp only [Option.some.injEq, Prod.mk.injEq] at h; rw [← h.1]; trivial
        · cases h
    · cases h
  · unfold eqR at h
    repeat' (split at h)
    all_goals (cases h <;> trivial)
  · cases h
def inB (n : Int) (k : Nat) : Bool := decide (0 ≤ n) && decide (n < k)
theorem inB_ok {n : Int} {k : Nat} (h : inB n k = true) : 0 ≤ n ∧ n < k := by simpa [inB] using h
def arrN : Option TK → Nat
  | some (.array n _) => n
  | _ => 0
def idxB (C : Cx) (os : Nat → Option O) (t : TypeId) (x i : V) : Bool :=
  match i with
  | .d (.int _ n) => match x with
    | .d (.sl _ rows) => inB n rows.length
    | .row o => match rowAt (os o) with
      | some (rows, _, _) => inB n rows.length
      | _ => true
    | _ => inB n (arrN ((C.T t).map (·.kind)))
  | _ => true
theorem idxB_ok {C : Cx} {os : Nat → Option O} {t : TypeId} {x i : V} {p : Prop} {r : V} (h : idxV C os t x i = some (p, r)) (hb : idxB C os t x i = true) : p := by
  unfold idxV at h
  split at h
  · rename_i k n
    simp only [idxB] at hb
    split at h
    · rename_i ti hti
      split at h
      · split at h
        · split at h
          · split at h
            · simp only [Option.some.injEq, Prod.mk.injEq] at h
              obtain ⟨rfl, rfl⟩ := h
              exact inB_ok hb
            · cases h
          · split at h
            · rename_i ho
              split at h
              · simp only [Option.some.injEq, Prod.mk.injEq] at h
                obtain ⟨rfl, rfl⟩ := h
                simp only [ho] at hb
                exact inB_ok hb
              · cases h
            · cases h
          · cases h
        · cases h
      · rename_i len e hk
        split at h
        · split at h
          · simp only [Option.some.injEq, Prod.mk.injEq] at h
            obtain ⟨rfl, rfl⟩ := h
            simp only [hti, Option.map_some, hk, arrN] at hb
            exact inB_ok hb
          · cases h
        · cases h
      · cases h
    · cases h
  · cases h
def indexB (x i : V) : Bool :=
  match x, i with
  | .d (.str s), .d (.int _ n) => inB n s.size
  | _, _ => true
theorem indexB_ok {C : Cx} {t : TypeId} {x i : V} {p : Prop} {r : V} (h : indexV C t x i = some (p, r)) (hb : indexB x i = true) : p := by
  unfold indexV at h
  split at h
  · split at h
    · simp only [Option.some.injEq, Prod.mk.injEq] at h
      obtain ⟨rfl, rfl⟩ := h
      exact inB_ok hb
    · cases h
  · cases h
def loadB (os : Nat → Option O) : V → Bool
  | .rptr o _ k _ => match rowAt (os o) with
    | some (rows, _, _) => decide (k < rows.length)
    | _ => true
  | _ => true
theorem loadB_ok {C : Cx} {os : Nat → Option O} {t : TypeId} {x : V} {p : Prop} {r : V} (h : loadV C os t x = some (p, r)) (hb : loadB os x = true) : p := by
  unfold loadV at h
  split at h
  · split at h
    · split at h
      · obtain ⟨v, _, hr⟩ := Option.map_eq_some_iff.1 h
        simp only [Prod.mk.injEq] at hr
        rw [← hr.1]; trivial
      · cases h
    · split at h
      · rename_i ho
        split at h
        · obtain ⟨v, _, hr⟩ := Option.map_eq_some_iff.1 h
          simp only [Prod.mk.injEq] at hr
          rw [← hr.1]
          simpa [loadB, ho] using hb
        · cases h
      · cases h
    · obtain ⟨v, _, hr⟩ := Option.map_eq_some_iff.1 h
      simp only [Prod.mk.injEq] at hr
      rw [← hr.1]; trivial
    · cases h
  · cases h
def bndB (e : Operand → V) : Option Operand → Bool
  | none => true
  | some x => match e x with
    | .d (.int _ n) => decide (0 ≤ n)
    | _ => true
def bndN (e : Operand → V) (x : Option Operand) (d : Nat) : Nat :=
  match x with
  | none => d
  | some x => match e x with
    | .d (.int _ n) => n.toNat
    | _ => d
theorem bnd_ok {C : Cx} {e : Operand → V} {x : Option Operand} {d : Nat} {p : Prop} {l : Nat} (h : bndV C e x d = some (p, l)) : bndN e x d = l ∧ (bndB e x = true → p) := by
  unfold bndV at h
  split at h
  · simp only [Option.some.injEq, Prod.mk.injEq] at h
    obtain ⟨rfl, rfl⟩ := h
    exact ⟨rfl, fun _ => trivial⟩
  · split at h
    · rename_i hx
      simp only [Option.some.injEq, Prod.mk.injEq] at h
      obtain ⟨rfl, rfl⟩ := h
      refine ⟨by simp [bndN, hx], fun hb => ?_⟩
      simpa [bndB, hx] using hb
    · cases h
def sliceB (e : Operand → V) (x : Operand) (lo hi : Option Operand) : Bool :=
  bndB e lo && (bndB e hi && (match e x with
  | .d (.str s) => decide (bndN e lo 0 ≤ bndN e hi s.size) && decide (bndN e hi s.size ≤ s.size)
  | .d (.sl _ rows) => decide (bndN e lo 0 ≤ bndN e hi rows.length) && decide (bndN e hi rows.length ≤ rows.length)
  | _ => true))
theorem sliceB_ok {C : Cx} {e : Operand → V} {t : TypeId} {x : Operand} {lo hi mx : Option Operand} {p : Prop} {r : V} (h : sliceV C e t x lo hi mx = some (p, r)) (hb : sliceB e x lo hi = true) : p := by
  unfold sliceB at hb
  rw [Bool.and_eq_true, Bool.and_eq_true] at hb
  unfold sliceV at h
  split at h
  · split at h
    · rename_i hx
      split at h
      · rename_i h1 h2
        simp only [Option.some.injEq, Prod.mk.injEq] at h
        obtain ⟨rfl, rfl⟩ := h
        obtain ⟨e1, k1⟩ := bnd_ok h1
        obtain ⟨e2, k2⟩ := bnd_ok h2
        have h3 := hb.2.2
        simp only [hx, e1, e2, Bool.and_eq_true, decide_eq_true_eq] at h3
        exact ⟨k1 hb.1, k2 hb.2.1, h3.1, h3.2⟩
      · cases h
    · rename_i hx
      split at h
      · split at h
        · split at h
          · rename_i h1 h2
            simp only [Option.some.injEq, Prod.mk.injEq] at h
            obtain ⟨rfl, rfl⟩ := h
            obtain ⟨e1, k1⟩ := bnd_ok h1
            obtain ⟨e2, k2⟩ := bnd_ok h2
            have h3 := hb.2.2
            simp only [hx, e1, e2, Bool.and_eq_true, decide_eq_true_eq] at h3
            exact ⟨k1 hb.1, k2 hb.2.1, h3.1, h3.2⟩
          · cases h
        · cases h
      · cases h
    · cases h
  · cases h
def byteB : List D → Bool
  | [.int .u8 _] => true
  | _ => false
theorem byteB_ok {rows : List (List D)} (h : rows.all byteB = true) : ByteRows rows := fun r hr => by
  have := List.all_eq_true.1 h r hr
  unfold byteB at this
  split at this
  · exact ⟨_, rfl⟩
  · cases this
def convB (os : Nat → Option O) : V → Bool
  | .d (.sl _ rows) => rows.all byteB
  | .row o => match os o with
    | some (.row rows _ _) => rows.all byteB
    | _ => true
  | _ => true
theorem convB_ok {C : Cx} {os : Nat → Option O} {s t : TypeId} {x : V} {p : Prop} {r : V} (h : convV C os s t x = some (p, r)) (hb : convB os x = true) : p := by
  unfold convV at h
  split at h
  · split at h
    · simp only [Option.some.injEq, Prod.mk.injEq] at h; rw [← h.1]; trivial
    · simp only [Option.some.injEq, Prod.mk.injEq] at h; rw [← h.1]; trivial
    · split at h
      · simp only [Option.some.injEq, Prod.mk.injEq] at h; rw [← h.1]; trivial
      · cases h
    · split at h
      · simp only [Option.some.injEq, Prod.mk.injEq] at h; rw [← h.1]; exact byteB_ok hb
      · cases h
    · split at h
      · rename_i ho
        split at h
        · simp only [Option.some.injEq, Prod.mk.injEq] at h; rw [← h.1]; simp only [convB, ho] at hb; exact byteB_ok hb
        · cases h
      · cases h
    · cases h
  · cases h
def valB (C : Cx) (st : St) : Op → Bool
  | .pick c a b => match ev st.env c with
    | .d (.bool t) => pickB t (ev st.env a) (ev st.env b)
    | _ => true
  | .binOp op _ x y _ => binB op (ev st.env x) (ev st.env y)
  | .indexAddr t x i => idxB C st.os t (ev st.env x) (ev st.env i)
  | .index _ x i => indexB (ev st.env x) (ev st.env i)
  | .load _ x => loadB st.os (ev st.env x)
  | .slice _ x lo hi _ => sliceB (ev st.env) x lo hi
  | .convert _ _ x => convB st.os (ev st.env x)
  | _ => true
theorem some_true {α : Type} {p : Prop} {r x : α} (h : some (True, x) = some (p, r)) : p := by
  simp only [Option.some.injEq, Prod.mk.injEq] at h
  rw [← h.1]; trivial
theorem map_true {α β : Type} {o : Option β} {f : β → α} {p : Prop} {r : α} (h : (o.map fun v => (True, f v)) = some (p, r)) : p := by
  obtain ⟨v, _, hr⟩ := Option.map_eq_some_iff.1 h
  simp only [Prod.mk.injEq] at hr
  rw [← hr.1]; trivial
theorem valB_ok {C : Cx} {st : St} {op : Op} {p : Prop} {r : V} (h : val C st op = some (p, r)) (hb : valB C st op = true) : p := by
  unfold val at h
  split at h
  · exact some_true h
  · exact some_true h
  · rename_i c a b
    split at h
    · rename_i hc
      simp only [valB, hc] at hb
      exact pickB_ok h hb
    · cases h
  · exact binB_ok h hb
  · unfold unV at h
    split at h
    · exact some_true h
    · exact some_true h
    · exact some_true h
    · cases h
  · split at h
    · exact map_true h
    · cases h
  · split at h
    all_goals first | exact some_true h | cases h
  · unfold fieldV at h
    split at h
    · split at h
      · split at h
        · split at h
          all_goals first | exact some_true h | cases h
        · cases h
      · cases h
    · cases h
  · unfold partV at h
    split at h
    · split at h
      · split at h
        · split at h
          · exact map_true h
          · cases h
        · cases h
      · cases h
    · cases h
  · exact idxB_ok h hb
  · exact indexB_ok h hb
  · exact loadB_ok h hb
  · exact sliceB_ok h hb
  · exact convB_ok h hb
  · split at h
    · exact some_true h
    · cases h
  · split at h
    · unfold lenV at h
      split at h
      · split at h
        · exact some_true h
        · exact some_true h
        · exact some_true h
        · split at h
          · exact some_true h
          · cases h
        · cases h
      · cases h
    · cases h
  · split at h
    · unfold minV at h
      split at h
      · exact some_true h
      · cases h
    · cases h
  · split at h
    · unfold minV at h
      split at h
      · exact some_true h
      · cases h
    · cases h
  · cases h
def bytesT (C : Cx) (t : TypeId) : Option Nat :=
  match C.T t with
  | some i => match i.kind with
    | .slice e => (C.T e).map (·.bytes)
    | _ => none
  | none => none
def makeB (C : Cx) (t : TypeId) (l c : V) : Bool :=
  match l, c with
  | .d (.int _ n), .d (.int _ n') => match bytesT C t with
    | some b => decide (0 ≤ n) && (decide (n ≤ n') && (decide ((b : Int) * n' ≤ 281474976710656) && decide (n' ≤ 9223372036854775807)))
    | none => true
  | _, _ => true
def appB (C : Cx) (st : St) (d : Nat) (t : TypeId) (so xo : Operand) : Bool :=
  match bytesT C t with
  | some b => match ev st.env so with
    | .row o => match st.os o with
      | some (.row rows m _) => match argRows st.os m (ev st.env xo) with
        | some rows2 => decide ((rows.length + rows2.length) * b ≤ 140737488355328) && decide (rows.length + rows2.length ≤ 9223372036854775807)
        | none => true
      | _ => true
    | .nil => match argRows (fresh st d).os (sizeE C t) (ev (fresh st d).env xo) with
      | some rows2 => decide (rows2.length * b ≤ 140737488355328) && decide (rows2.length ≤ 9223372036854775807)
      | none => true
    | _ => true
  | none => true
where sizeE (C : Cx) (t : TypeId) : Nat :=
  match C.T t with
  | some i => match i.kind with
    | .slice e => match C.T e with
      | some ie => ie.size
      | none => 0
    | _ => 0
  | none => 0
theorem appB_ok {C : Cx} {st : St} {d : Nat} {t : TypeId} {so xo : Operand} {p : Prop} {r : V} {s : St} (h : appV C st d t so xo = some (p, r, s)) (hb : appB C st d t so xo = true) : p := by
  unfold appV at h
  unfold appB at hb
  split at h
  · rename_i i hi
    split at h
    · rename_i e hk
      split at h
      · rename_i ie hie
        have hbt : bytesT C t = some ie.bytes := by simp [bytesT, hi, hk, hie]
        have hsz : appB.sizeE C t = ie.size := by simp [appB.sizeE, hi, hk, hie]
        rw [hbt, hsz] at hb
        split at h
        · split at h
          · rename_i ho
            split at h
            · rename_i hoo
              split at h
              · obtain ⟨rows2, h2, hr⟩ := Option.map_eq_some_iff.1 h
                simp only [Prod.mk.injEq] at hr
                rw [← hr.1]
                simp only [ho, hoo, h2, Bool.and_eq_true, decide_eq_true_eq] at hb
                exact hb
              · cases h
            · cases h
          · rename_i ho
            obtain ⟨rows2, h2, hr⟩ := Option.map_eq_some_iff.1 h
            simp only [Prod.mk.injEq] at hr
            rw [← hr.1]
            simp only [ho, h2, Bool.and_eq_true, decide_eq_true_eq] at hb
            exact hb
          · cases h
        · cases h
      · cases h
    · cases h
  · cases h
/-- The condition of an operation that changes the state. -/
def actB (C : Cx) (st : St) (d : Nat) : Op → Bool
  | .makeSlice t l c => makeB C t (ev st.env l) (ev st.env c)
  | .store _ x _ => loadB st.os (ev st.env x)
  | .convert _ _ x => match ev st.env x with
    | .d (.str b) => decide (b.size ≤ 9223372036854775807)
    | _ => true
  | .call { callee := .builtin .append, args, argTypes } => match args.toList, argTypes.toList with
    | [s, x], [t, _] => appB C st d t s x
    | _, _ => true
  | _ => true
theorem callV_sure {C : Cx} (hC : Sure C) {st : St} {fo : Operand} {xs : List Operand} {p : Prop} {r : V} {s : St} (h : callV C st fo xs = some (p, r, s)) : p := by
  unfold callV at h
  split at h
  · split at h
    · obtain ⟨q, hq, e⟩ := Option.map_eq_some_iff.1 h
      simp only [Prod.mk.injEq] at e
      rw [← e.1]; exact hC.g _ _ _ _ hq
    · split at h
      · rename_i hq
        split at h
        · simp only [Option.some.injEq, Prod.mk.injEq] at h
          rw [← h.1]; exact hC.g _ _ _ _ hq
        · split at h
          · split at h
            · obtain ⟨q, hq, e⟩ := Option.map_eq_some_iff.1 h
              simp only [Prod.mk.injEq] at e
              rw [← e.1]; exact hC.g _ _ _ _ hq
            · cases h
          · cases h
      · cases h
  · cases h
theorem callE_sure {C : Cx} (hC : Sure C) {st : St} {d : Nat} {fo : Operand} {xs : List Operand} {p : Prop} {r : V} {s : St} (h : callE C st d fo xs = some (p, r, s)) : p := by
  unfold callE at h
  split at h
  · split at h
    · split at h
      · rename_i hq
        split at h
        · simp only [Option.some.injEq, Prod.mk.injEq] at h
          rw [← h.1]; exact hC.d _ _ _ _ _ _ hq
        · cases h
      · cases h
    · cases h
  · cases h
theorem callH_sure {C : Cx} (hC : Sure C) {st : St} {d : Nat} {fo : Operand} {xs : List Operand} {p : Prop} {r : V} {s : St} (h : callH C st d fo xs = some (p, r, s)) : p := by
  unfold callH at h
  split at h
  · obtain ⟨⟨p', r', s'⟩, hq, e⟩ := Option.map_eq_some_iff.1 h
    simp only [Prod.mk.injEq] at e
    rw [← e.1]
    exact callE_sure hC hq
  · exact callE_sure hC h
theorem pcall_sure {C : Cx} (hC : Sure C) {st : St} {fo : Operand} {xs : List Operand} {p : Prop} {r : V} (h : pcall C st fo xs = some (p, r)) : p := by
  unfold pcall at h
  split at h
  · split at h
    · split at h
      · exact hC.g _ _ _ _ h
      · split at h
        · rename_i hq
          split at h
          · simp only [Option.some.injEq, Prod.mk.injEq] at h
            rw [← h.1]; exact hC.g _ _ _ _ hq
          · cases h
        · cases h
    · cases h
  · cases h
theorem actB_ok {C : Cx} (hC : Sure C) {st : St} {d : Nat} {op : Op} {p : Prop} {r : V} {s : St} (h : act C st d op = some (p, r, s)) (hb : actB C st d op = true) : p := by
  unfold act at h
  split at h
  · split at h
    · exact some_true h
    · cases h
  · split at h
    · exact some_true h
    · cases h
  · unfold storeV at h
    split at h
    · split at h
      · split at h
        · split at h
          · split at h
            · split at h
              · exact some_true h
              · cases h
            · cases h
          · rename_i hx
            split at h
            · rename_i ho
              split at h
              · obtain ⟨ds, _, hr⟩ := Option.map_eq_some_iff.1 h
                simp only [Prod.mk.injEq] at hr
                rw [← hr.1]
                simpa [actB, hx, loadB, ho] using hb
              · cases h
            · cases h
          · cases h
        · cases h
      · cases h
    · cases h
  · exact map_true h
  · unfold litV at h
    split at h
    · split at h
      · split at h
        · split at h
          · split at h
            · exact some_true h
            · cases h
          · split at h
            · split at h
              · split at h
                · exact map_true h
                · cases h
              · split at h
                · exact map_true h
                · cases h
            · cases h
        · cases h
      · cases h
    · cases h
  · rename_i t l c
    simp only [actB] at hb
    unfold makeV at h
    split at h
    · rename_i hl hc
      split at h
      · rename_i i hi
        split at h
        · rename_i e hk
          split at h
          · rename_i ie hie
            obtain ⟨zd, _, hr⟩ := Option.map_eq_some_iff.1 h
            simp only [Prod.mk.injEq] at hr
            rw [← hr.1]
            have hbt : bytesT C t = some ie.bytes := by simp [bytesT, hi, hk, hie]
            simp only [makeB, hl, hc, hbt, Bool.and_eq_true, decide_eq_true_eq] at hb
            exact hb
          · cases h
        · cases h
      · cases h
    · cases h
  · unfold rangeV at h
    split at h
    · exact some_true h
    · cases h
  · unfold nextV at h
    split at h
    · split at h
      · split at h
        · exact some_true h
        · exact some_true h
      · cases h
    · cases h
  · exact some_true h
  · unfold mapUpV at h
    split at h
    · split at h
      · split at h
        · split at h
          · exact some_true h
          · cases h
        · cases h
      · cases h
    · cases h
  · obtain ⟨q, hq, hr⟩ := Option.map_eq_some_iff.1 h
    simp only [Prod.mk.injEq] at hr
    rw [← hr.1]
    obtain ⟨q1, q2⟩ := q
    unfold lookV at hq
    split at hq
    · split at hq
      · split at hq
        · exact some_true hq
        · cases hq
      · cases hq
    · cases hq
  · rename_i sT dt x
    split at h
    · rename_i b hx
      split at h
      · split at h
        · simp only [Option.some.injEq, Prod.mk.injEq] at h
          rw [← h.1]
          simpa [actB, hx] using hb
        · cases h
      · cases h
    · cases h
  · split at h
    · split at h
      · rename_i hq
        simp only [Option.some.injEq] at h
        subst h
        exact callV_sure hC hq
      · exact callH_sure hC h
    · cases h
  · split at h
    · rename_i s x t t' hs ht
      split at h
      · simp only [actB, hs, ht] at hb
        exact appB_ok h hb
      · cases h
    · cases h
  · cases h
end Go.Proofs.YtgnnakibcjonbaaGreatDoor.VE
