/- The contracts of slices.Sort, where all contracts of the seat stand in one text. -/
import Derived.Test.YtacacibpehnmgaaGreatDoorShelf
